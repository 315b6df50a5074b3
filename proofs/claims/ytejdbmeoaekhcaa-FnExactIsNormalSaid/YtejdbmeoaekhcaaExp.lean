/- Walks: the unfolding of a definition in a redex, in the reference: that it returns. No condition. -/
import Derived.Test.YtejdbmeoaekhcaaApp
import Derived.Test.YtejdbmeoaekhcaaRdx
import Derived.Deep.RegionHeld3
import Derived.Deep.CutRange
import Derived.Deep.RegionLaw
import Derived.Deep.AppendLies
namespace Go.Proofs.Ytejdbmeoaekhcaa
open Go.ChangeShapes Go.WideShapes Go.ChangeAt Go.RowKit
open Go.Sort (grow)
set_option linter.unusedVariables false

set_option maxRecDepth 100000 in
set_option maxHeartbeats 4000000 in
theorem expand_0 (fs : List Co) (afs : Option Addr) (cfs : Nat) (k1 v1 : Int) (ds1 : List Int) (ks1 : List Co) (b0 o0 b1 o1 : Nat) (vk : Value) (vt : Int) (dt : List Int) (kt : List Co) (w : World) (hM : ks1.length ≤ 1048576) (yb : w.cell? ⟨b0, o0, none⟩ = some (.slice afs fs.length cfs)) (hrb : RdL w (Co.ds fs) (.slice afs fs.length cfs)) (hat : AtC w b1 o1 (Co.mk k1 v1 ds1 ks1)) (hk : RdL w (Co.ds ks1) vk) (hj : ks1[0]? = some (.mk 11 vt dt kt)) (hv0 : 0 ≤ vt) (hv1 : vt < fs.length) :
    Calls Try.prog 68 #[.pointer (some ⟨b0, o0, none⟩), .pointer (some ⟨b1, o1, none⟩), vk] w (GivesW w) := by
  obtain ⟨i0, hi, hz0, hz1, hz2⟩ := info_parts infoCo
  have HI := hid hi
  have hJl : 0 < ks1.length := (List.getElem?_eq_some_iff.1 hj).1
  have hpos : 0 < ks1.length := by omega
  obtain ⟨af, cf, rfl, hf1, hf2, hfall⟩ := kids_at hk
  obtain ⟨bq, oq, rfl, hlq, hfall⟩ := hfall hpos
  obtain ⟨news, hnl, hnews, hone⟩ := kid_cells hfall
  obtain ⟨m, rfl⟩ : ∃ m : Nat, vt = m := ⟨vt.toNat, by omega⟩
  have hm : m < fs.length := by omega
  obtain ⟨_, _, e, hb1, hb2, hball⟩ := kids_at hrb
  simp only [Value.slice.injEq, true_and] at e
  obtain ⟨rfl, rfl⟩ := e
  obtain ⟨bf, of, rfl, hlf, hball⟩ := hball (by omega)
  obtain ⟨t, ht⟩ : ∃ t, fs[m]? = some t := ⟨_, List.getElem?_eq_getElem hm⟩
  obtain ⟨k5, v5, ds5, ks5⟩ := t
  obtain ⟨ad5, cd5, ak5, ck5, t0, t1, t2, t3, _⟩ := hball m _ ht
  have hrk := hat
  obtain ⟨ads1, cds1, aks1, cks1, x0, x1, x2, x3, hr⟩ := hat
  obtain ⟨_, _, e, hc1, hc2, hall⟩ := kids_at hr.fCo.2.2.2
  simp only [Value.slice.injEq, true_and] at e
  obtain ⟨rfl, rfl⟩ := e
  obtain ⟨bc, oc, rfl, hlc, hall⟩ := hall hpos
  obtain ⟨_, _, _, _, p0, p1, _, _, _⟩ := hall 0 _ hj
  have K0 := hid p0
  simp only [Nat.zero_mul, Nat.add_zero] at p0 p1
  have hB1 : Below w.heap.size w (w.alloc (.cells #[.int .i64 0, .int .i64 0, .slice none 0 0, .slice none 0 0] 36)) := (Below.refl _ _).alloc (Nat.le_refl _) _
  have l1 := World.block_lt_of_cell? _ _ x0
  have lb := World.block_lt_of_cell? _ _ yb
  have y0 := (hB1.cell (p := ⟨b1, o1, none⟩) l1).trans x0
  have y1 := (hB1.cell (p := ⟨b1, o1 + 1, none⟩) l1).trans x1
  have y2 := (hB1.cell (p := ⟨b1, o1 + 2, none⟩) l1).trans x2
  have HBW := hid hB1
  have HN1 := hid (show (w.alloc (.cells #[.int .i64 0, .int .i64 0, .slice none 0 0, .slice none 0 0] 36)).heap[w.heap.size]? = some (.cells #[.int .i64 0, .int .i64 0, .slice none 0 0, .slice none 0 0] 36) from heap_alloc_new w _)
  have h63 : 0 + ks1.length ≤ maxLen := by simp only [maxLen]; omega
  have hby : (0 + ks1.length) * 64 ≤ 140737488355328 := by omega
  have X3 := hid x3
  have YB := hid yb
  have P1 := hid p1
  have T0 := hid t0
  have T1 := hid t1
  have T2 := hid t2
  have T3 := hid t3
  clear hall hball hfall hrk hr x0 x1 x2 x3 yb p1 t0 t1 t2 t3 hB1 hk hrb hi ht hj
  go_enter Try.func68, Try.ntmps68
  go_wp2_with fail
  have hS0 : (Below (w.alloc (.cells #[.int .i64 0, .int .i64 0, .slice none 0 0, .slice none 0 0] 36)).heap.size (w.alloc (.cells #[.int .i64 0, .int .i64 0, .slice none 0 0, .slice none 0 0] 36)) ((w.alloc (.cells #[.int .i64 0, .int .i64 0, .slice none 0 0, .slice none 0 0] 36))).drew ∧ ((w.alloc (.cells #[.int .i64 0, .int .i64 0, .slice none 0 0, .slice none 0 0] 36))).drew.cell? ⟨b1, o1, none⟩ = some (.int .i64 k1) ∧ ((w.alloc (.cells #[.int .i64 0, .int .i64 0, .slice none 0 0, .slice none 0 0] 36))).drew.cell? ⟨b1, o1 + 1, none⟩ = some (.int .i64 v1) ∧ ((w.alloc (.cells #[.int .i64 0, .int .i64 0, .slice none 0 0, .slice none 0 0] 36))).drew.cell? ⟨b1, o1 + 2, none⟩ = some (.slice ads1 ds1.length cds1)) := ⟨(Below.refl _ _).drew, y0, y1, y2⟩
  have hkeep : ∀ V V' : World, Below (w.alloc (.cells #[.int .i64 0, .int .i64 0, .slice none 0 0, .slice none 0 0] 36)).heap.size V V' → ((Below (w.alloc (.cells #[.int .i64 0, .int .i64 0, .slice none 0 0, .slice none 0 0] 36)).heap.size (w.alloc (.cells #[.int .i64 0, .int .i64 0, .slice none 0 0, .slice none 0 0] 36)) V ∧ V.cell? ⟨b1, o1, none⟩ = some (.int .i64 k1) ∧ V.cell? ⟨b1, o1 + 1, none⟩ = some (.int .i64 v1) ∧ V.cell? ⟨b1, o1 + 2, none⟩ = some (.slice ads1 ds1.length cds1))) → ((Below (w.alloc (.cells #[.int .i64 0, .int .i64 0, .slice none 0 0, .slice none 0 0] 36)).heap.size (w.alloc (.cells #[.int .i64 0, .int .i64 0, .slice none 0 0, .slice none 0 0] 36)) V' ∧ V'.cell? ⟨b1, o1, none⟩ = some (.int .i64 k1) ∧ V'.cell? ⟨b1, o1 + 1, none⟩ = some (.int .i64 v1) ∧ V'.cell? ⟨b1, o1 + 2, none⟩ = some (.slice ads1 ds1.length cds1))) := fun V V' hb ⟨h, h0, h1, h2⟩ => ⟨h.trans hb, (hb.cell (p := ⟨b1, o1, none⟩) (World.block_lt_of_cell? _ _ y0)).trans h0, (hb.cell (p := ⟨b1, o1 + 1, none⟩) (World.block_lt_of_cell? _ _ y1)).trans h1, (hb.cell (p := ⟨b1, o1 + 2, none⟩) (World.block_lt_of_cell? _ _ y2)).trans h2⟩
  have KEEP := hid hkeep
  have KAL := hid (fun (V : World) (ob : Obj) (h : (Below (w.alloc (.cells #[.int .i64 0, .int .i64 0, .slice none 0 0, .slice none 0 0] 36)).heap.size (w.alloc (.cells #[.int .i64 0, .int .i64 0, .slice none 0 0, .slice none 0 0] 36)) V ∧ V.cell? ⟨b1, o1, none⟩ = some (.int .i64 k1) ∧ V.cell? ⟨b1, o1 + 1, none⟩ = some (.int .i64 v1) ∧ V.cell? ⟨b1, o1 + 2, none⟩ = some (.slice ads1 ds1.length cds1))) => hkeep V (V.alloc ob) ((Below.refl _ _).alloc h.1.size _) h)
  have KST4 := hid (fun (V : World) (b : Nat) (p q r u : Value) (hg : (w.alloc (.cells #[.int .i64 0, .int .i64 0, .slice none 0 0, .slice none 0 0] 36)).heap.size ≤ b) (h : (Below (w.alloc (.cells #[.int .i64 0, .int .i64 0, .slice none 0 0, .slice none 0 0] 36)).heap.size (w.alloc (.cells #[.int .i64 0, .int .i64 0, .slice none 0 0, .slice none 0 0] 36)) V ∧ V.cell? ⟨b1, o1, none⟩ = some (.int .i64 k1) ∧ V.cell? ⟨b1, o1 + 1, none⟩ = some (.int .i64 v1) ∧ V.cell? ⟨b1, o1 + 2, none⟩ = some (.slice ads1 ds1.length cds1))) => hkeep V (set4W V b p q r u) (set4_below (Below.refl _ _) hg p q r u) h)
  have hSa : (Below (w.alloc (.cells #[.int .i64 0, .int .i64 0, .slice none 0 0, .slice none 0 0] 36)).heap.size (w.alloc (.cells #[.int .i64 0, .int .i64 0, .slice none 0 0, .slice none 0 0] 36)) (((w.alloc (.cells #[.int .i64 0, .int .i64 0, .slice none 0 0, .slice none 0 0] 36)).alloc (.cells #[.int .i64 0, .int .i64 0, .slice none 0 0, .slice none 0 0] 36))).drew ∧ (((w.alloc (.cells #[.int .i64 0, .int .i64 0, .slice none 0 0, .slice none 0 0] 36)).alloc (.cells #[.int .i64 0, .int .i64 0, .slice none 0 0, .slice none 0 0] 36))).drew.cell? ⟨b1, o1, none⟩ = some (.int .i64 k1) ∧ (((w.alloc (.cells #[.int .i64 0, .int .i64 0, .slice none 0 0, .slice none 0 0] 36)).alloc (.cells #[.int .i64 0, .int .i64 0, .slice none 0 0, .slice none 0 0] 36))).drew.cell? ⟨b1, o1 + 1, none⟩ = some (.int .i64 v1) ∧ (((w.alloc (.cells #[.int .i64 0, .int .i64 0, .slice none 0 0, .slice none 0 0] 36)).alloc (.cells #[.int .i64 0, .int .i64 0, .slice none 0 0, .slice none 0 0] 36))).drew.cell? ⟨b1, o1 + 2, none⟩ = some (.slice ads1 ds1.length cds1)) := KAL.out _ _ hS0
  have hSe : (Below (w.alloc (.cells #[.int .i64 0, .int .i64 0, .slice none 0 0, .slice none 0 0] 36)).heap.size (w.alloc (.cells #[.int .i64 0, .int .i64 0, .slice none 0 0, .slice none 0 0] 36)) (((w.alloc (.cells #[.int .i64 0, .int .i64 0, .slice none 0 0, .slice none 0 0] 36)).alloc (.cells #[] 36))).drew ∧ (((w.alloc (.cells #[.int .i64 0, .int .i64 0, .slice none 0 0, .slice none 0 0] 36)).alloc (.cells #[] 36))).drew.cell? ⟨b1, o1, none⟩ = some (.int .i64 k1) ∧ (((w.alloc (.cells #[.int .i64 0, .int .i64 0, .slice none 0 0, .slice none 0 0] 36)).alloc (.cells #[] 36))).drew.cell? ⟨b1, o1 + 1, none⟩ = some (.int .i64 v1) ∧ (((w.alloc (.cells #[.int .i64 0, .int .i64 0, .slice none 0 0, .slice none 0 0] 36)).alloc (.cells #[] 36))).drew.cell? ⟨b1, o1 + 2, none⟩ = some (.slice ads1 ds1.length cds1)) := KAL.out _ _ hS0
  have hSa1 : (Below (w.alloc (.cells #[.int .i64 0, .int .i64 0, .slice none 0 0, .slice none 0 0] 36)).heap.size (w.alloc (.cells #[.int .i64 0, .int .i64 0, .slice none 0 0, .slice none 0 0] 36)) ((((w.alloc (.cells #[.int .i64 0, .int .i64 0, .slice none 0 0, .slice none 0 0] 36)).alloc (.cells #[.int .i64 0, .int .i64 0, .slice none 0 0, .slice none 0 0] 36)).alloc (.cells #[] 36))).drew ∧ ((((w.alloc (.cells #[.int .i64 0, .int .i64 0, .slice none 0 0, .slice none 0 0] 36)).alloc (.cells #[.int .i64 0, .int .i64 0, .slice none 0 0, .slice none 0 0] 36)).alloc (.cells #[] 36))).drew.cell? ⟨b1, o1, none⟩ = some (.int .i64 k1) ∧ ((((w.alloc (.cells #[.int .i64 0, .int .i64 0, .slice none 0 0, .slice none 0 0] 36)).alloc (.cells #[.int .i64 0, .int .i64 0, .slice none 0 0, .slice none 0 0] 36)).alloc (.cells #[] 36))).drew.cell? ⟨b1, o1 + 1, none⟩ = some (.int .i64 v1) ∧ ((((w.alloc (.cells #[.int .i64 0, .int .i64 0, .slice none 0 0, .slice none 0 0] 36)).alloc (.cells #[.int .i64 0, .int .i64 0, .slice none 0 0, .slice none 0 0] 36)).alloc (.cells #[] 36))).drew.cell? ⟨b1, o1 + 2, none⟩ = some (.slice ads1 ds1.length cds1)) := KAL.out _ _ hSa
  have hSe1 : (Below (w.alloc (.cells #[.int .i64 0, .int .i64 0, .slice none 0 0, .slice none 0 0] 36)).heap.size (w.alloc (.cells #[.int .i64 0, .int .i64 0, .slice none 0 0, .slice none 0 0] 36)) ((((w.alloc (.cells #[.int .i64 0, .int .i64 0, .slice none 0 0, .slice none 0 0] 36)).alloc (.cells #[] 36)).alloc (.cells #[.int .i64 0, .int .i64 0, .slice none 0 0, .slice none 0 0] 36))).drew ∧ ((((w.alloc (.cells #[.int .i64 0, .int .i64 0, .slice none 0 0, .slice none 0 0] 36)).alloc (.cells #[] 36)).alloc (.cells #[.int .i64 0, .int .i64 0, .slice none 0 0, .slice none 0 0] 36))).drew.cell? ⟨b1, o1, none⟩ = some (.int .i64 k1) ∧ ((((w.alloc (.cells #[.int .i64 0, .int .i64 0, .slice none 0 0, .slice none 0 0] 36)).alloc (.cells #[] 36)).alloc (.cells #[.int .i64 0, .int .i64 0, .slice none 0 0, .slice none 0 0] 36))).drew.cell? ⟨b1, o1 + 1, none⟩ = some (.int .i64 v1) ∧ ((((w.alloc (.cells #[.int .i64 0, .int .i64 0, .slice none 0 0, .slice none 0 0] 36)).alloc (.cells #[] 36)).alloc (.cells #[.int .i64 0, .int .i64 0, .slice none 0 0, .slice none 0 0] 36))).drew.cell? ⟨b1, o1 + 2, none⟩ = some (.slice ads1 ds1.length cds1)) := KAL.out _ _ hSe
  have own1 : ((((w.alloc (.cells #[.int .i64 0, .int .i64 0, .slice none 0 0, .slice none 0 0] 36)).alloc (.cells #[.int .i64 0, .int .i64 0, .slice none 0 0, .slice none 0 0] 36)).alloc (.cells #[] 36))).drew.ownsRow (w.alloc (.cells #[.int .i64 0, .int .i64 0, .slice none 0 0, .slice none 0 0] 36)).heap.size 36 4 (.slice (some ⟨w.heap.size + 1 + 1, 0, none⟩) 0 0) 0 [] := by
    have h := made_row ((w.alloc (.cells #[.int .i64 0, .int .i64 0, .slice none 0 0, .slice none 0 0] 36)).alloc (.cells #[.int .i64 0, .int .i64 0, .slice none 0 0, .slice none 0 0] 36)) (w.alloc (.cells #[.int .i64 0, .int .i64 0, .slice none 0 0, .slice none 0 0] 36)).heap.size (by simp) 36
    simp only [World.size_alloc] at h ⊢
    exact h
  have own2 : (((w.alloc (.cells #[.int .i64 0, .int .i64 0, .slice none 0 0, .slice none 0 0] 36)).alloc (.cells #[] 36))).drew.ownsRow (w.alloc (.cells #[.int .i64 0, .int .i64 0, .slice none 0 0, .slice none 0 0] 36)).heap.size 36 4 (.slice (some ⟨w.heap.size + 1, 0, none⟩) 0 0) 0 [] := by
    have h := made_row (w.alloc (.cells #[.int .i64 0, .int .i64 0, .slice none 0 0, .slice none 0 0] 36)) (w.alloc (.cells #[.int .i64 0, .int .i64 0, .slice none 0 0, .slice none 0 0] 36)).heap.size (Nat.le_refl _) 36
    simp only [World.size_alloc] at h ⊢
    exact h
  have own3 : ((((w.alloc (.cells #[.int .i64 0, .int .i64 0, .slice none 0 0, .slice none 0 0] 36)).alloc (.cells #[] 36)).alloc (.cells #[.int .i64 0, .int .i64 0, .slice none 0 0, .slice none 0 0] 36))).drew.ownsRow (w.alloc (.cells #[.int .i64 0, .int .i64 0, .slice none 0 0, .slice none 0 0] 36)).heap.size 36 4 (.slice (some ⟨w.heap.size + 1, 0, none⟩) 0 0) 0 [] := by
    have h := ownsRow.below (made_row (w.alloc (.cells #[.int .i64 0, .int .i64 0, .slice none 0 0, .slice none 0 0] 36)) (w.alloc (.cells #[.int .i64 0, .int .i64 0, .slice none 0 0, .slice none 0 0] 36)).heap.size (Nat.le_refl _) 36) (((Below.refl _ _).alloc (Nat.le_refl _) (.cells #[.int .i64 0, .int .i64 0, .slice none 0 0, .slice none 0 0] 36)))
    simp only [World.size_alloc] at h ⊢
    exact h
  have hx1 : ((((w.alloc (.cells #[.int .i64 0, .int .i64 0, .slice none 0 0, .slice none 0 0] 36)).alloc (.cells #[.int .i64 0, .int .i64 0, .slice none 0 0, .slice none 0 0] 36)).alloc (.cells #[] 36))).drew.heap[w.heap.size + 1]? = some (.cells #[.int .i64 0, .int .i64 0, .slice none 0 0, .slice none 0 0] 36) := by
    show ((((w.alloc (.cells #[.int .i64 0, .int .i64 0, .slice none 0 0, .slice none 0 0] 36)).alloc (.cells #[.int .i64 0, .int .i64 0, .slice none 0 0, .slice none 0 0] 36)).alloc (.cells #[] 36))).heap[w.heap.size + 1]? = _
    rw [Below.heap_alloc _ _ _ (by simp)]
    have h := heap_alloc_new (w.alloc (.cells #[.int .i64 0, .int .i64 0, .slice none 0 0, .slice none 0 0] 36)) (.cells #[.int .i64 0, .int .i64 0, .slice none 0 0, .slice none 0 0] 36)
    simp only [World.size_alloc] at h ⊢
    exact h
  have hx3 : ((((w.alloc (.cells #[.int .i64 0, .int .i64 0, .slice none 0 0, .slice none 0 0] 36)).alloc (.cells #[] 36)).alloc (.cells #[.int .i64 0, .int .i64 0, .slice none 0 0, .slice none 0 0] 36))).drew.heap[w.heap.size + 1 + 1]? = some (.cells #[.int .i64 0, .int .i64 0, .slice none 0 0, .slice none 0 0] 36) := by
    have h := heap_alloc_new ((w.alloc (.cells #[.int .i64 0, .int .i64 0, .slice none 0 0, .slice none 0 0] 36)).alloc (.cells #[] 36)) (.cells #[.int .i64 0, .int .i64 0, .slice none 0 0, .slice none 0 0] 36)
    simp only [World.size_alloc] at h ⊢
    exact h
  have hnw : ∀ V : World, Below (w.alloc (.cells #[.int .i64 0, .int .i64 0, .slice none 0 0, .slice none 0 0] 36)).heap.size (w.alloc (.cells #[.int .i64 0, .int .i64 0, .slice none 0 0, .slice none 0 0] 36)) V → ∀ (j : Nat) (u : Value), news[j]? = some u → V.cell? ((⟨bq, oq, none⟩ : Addr).add j) = some u := fun V hV j u h => by
    rw [Addr.add_lit]
    exact ((HBW.out.trans (hV.mono HBW.out.size)).cell (p := ⟨bq, oq + j, none⟩) hlq).trans (hnews j u h)
  have HNW1 := hid (hnw _ hSa1.1)
  have HNW2 := hid (hnw _ hSe.1)
  have HNW3 := hid (hnw _ hSe1.1)
  clear hkeep hnw
  go_upto_region 1 with fail
  go_cut [7] from 9 (fun t7 wx => ∃ (g gq cap : Nat) (cur : Array Value), t7 = .pointer (some ⟨g, 0, none⟩) ∧ Hid ((w.alloc (.cells #[.int .i64 0, .int .i64 0, .slice none 0 0, .slice none 0 0] 36)).heap.size ≤ g) ∧ Hid ((w.alloc (.cells #[.int .i64 0, .int .i64 0, .slice none 0 0, .slice none 0 0] 36)).heap.size ≤ gq) ∧ Hid (g ≠ gq) ∧ Hid (Below (w.alloc (.cells #[.int .i64 0, .int .i64 0, .slice none 0 0, .slice none 0 0] 36)).heap.size (w.alloc (.cells #[.int .i64 0, .int .i64 0, .slice none 0 0, .slice none 0 0] 36)) wx) ∧ Hid (wx.heap[g]? = some (.cells #[.int .i64 k1, .int .i64 v1, .slice ads1 ds1.length cds1, .slice (some ⟨gq, 0, none⟩) ks1.length cap] 36)) ∧ Hid (wx.heap[gq]? = some (.cells cur 36)) ∧ Hid (ks1.length * 4 ≤ cur.size))
  case first =>
    go_region_held3 (fun V => (Below (w.alloc (.cells #[.int .i64 0, .int .i64 0, .slice none 0 0, .slice none 0 0] 36)).heap.size (w.alloc (.cells #[.int .i64 0, .int .i64 0, .slice none 0 0, .slice none 0 0] 36)) V ∧ V.cell? ⟨b1, o1, none⟩ = some (.int .i64 k1) ∧ V.cell? ⟨b1, o1 + 1, none⟩ = some (.int .i64 v1) ∧ V.cell? ⟨b1, o1 + 2, none⟩ = some (.slice ads1 ds1.length cds1)))
      (with_reducible first | exact hS0 | exact hSa | exact hSe | exact hSa1 | exact hSe1 | exact hS3 | exact KAL.out _ _ hS3 | exact KST4.out _ _ _ _ _ _ (by simp) hS3)
      (first
        | (refine step_append_lies _ (by rfl) _ _ _ (by rfl) (w.alloc (.cells #[.int .i64 0, .int .i64 0, .slice none 0 0, .slice none 0 0] 36)).heap.size 36 i0 _ 4 64 Try.underlying31 HI.out hz0 hz1 hz2 rfl (by omega) (.slice (some ⟨w.heap.size + 1 + 1, 0, none⟩) 0 0) 0 [] (by rfl) own1 ⟨bq, oq, none⟩ ks1.length cf news (by rfl) hnl HNW1.out hone hpos h63 hby hSa1.1.size ((((w.alloc (.cells #[.int .i64 0, .int .i64 0, .slice none 0 0, .slice none 0 0] 36)).alloc (.cells #[.int .i64 0, .int .i64 0, .slice none 0 0, .slice none 0 0] 36)).alloc (.cells #[] 36))).drew.heap.size rfl ?_; intro gq cap W3 ho3 hg3 hat3 hlt3; rw [Nat.zero_add, List.nil_append] at ho3; rw [Nat.zero_add]; have hord := true; have hxx := (hg3.block _ (Array.getElem?_eq_some_iff.1 hx1).1 (by simp [Value.ownBlock])).trans hx1; have z0 := heap_free hxx 0; have z1 := heap_free hxx 1; have z2 := heap_free hxx 2; have z3 := heap_free hxx 3; have r0 := heap_cell hxx (j := 0) rfl; have r1 := heap_cell hxx (j := 1) rfl; have r2 := heap_cell hxx (j := 2) rfl; have r3 := heap_cell hxx (j := 3) rfl; have hS3 := KEEP.out _ _ ((Below.refl _ _).grown hg3 hSa1.1.size (fun k hk => by simp [Value.ownBlock] at hk; simp; omega)) hSa1; have HP1 := hid (fun p q r u => app_before (p := p) (q := q) (r := r) (u := u) (g := w.heap.size + 1) (EB := w.heap.size + 1 + 1) hpos hSa1.1 (by simp) hx1 (by simp; try omega) (by omega) hg3 ho3 (by simpa [Value.ownBlock] using hat3)))
        | (refine step_append_lies _ (by rfl) _ _ _ (by rfl) (w.alloc (.cells #[.int .i64 0, .int .i64 0, .slice none 0 0, .slice none 0 0] 36)).heap.size 36 i0 _ 4 64 Try.underlying31 HI.out hz0 hz1 hz2 rfl (by omega) (.slice (some ⟨w.heap.size + 1, 0, none⟩) 0 0) 0 [] (by rfl) own3 ⟨bq, oq, none⟩ ks1.length cf news (by rfl) hnl HNW3.out hone hpos h63 hby hSe1.1.size ((((w.alloc (.cells #[.int .i64 0, .int .i64 0, .slice none 0 0, .slice none 0 0] 36)).alloc (.cells #[] 36)).alloc (.cells #[.int .i64 0, .int .i64 0, .slice none 0 0, .slice none 0 0] 36))).drew.heap.size rfl ?_; intro gq cap W3 ho3 hg3 hat3 hlt3; rw [Nat.zero_add, List.nil_append] at ho3; rw [Nat.zero_add]; have hxx := (hg3.block _ (Array.getElem?_eq_some_iff.1 hx3).1 (by simp [Value.ownBlock])).trans hx3; have z0 := heap_free hxx 0; have z1 := heap_free hxx 1; have z2 := heap_free hxx 2; have z3 := heap_free hxx 3; have r0 := heap_cell hxx (j := 0) rfl; have r1 := heap_cell hxx (j := 1) rfl; have r2 := heap_cell hxx (j := 2) rfl; have r3 := heap_cell hxx (j := 3) rfl; have hS3 := KEEP.out _ _ ((Below.refl _ _).grown hg3 hSe1.1.size (fun k hk => by simp [Value.ownBlock] at hk; simp; omega)) hSe1; have HP1 := hid (fun p q r u => app_before (p := p) (q := q) (r := r) (u := u) (g := w.heap.size + 1 + 1) (EB := w.heap.size + 1) hpos hSe1.1 (by simp; try omega) hx3 (by simp) (by omega) hg3 ho3 (by simpa [Value.ownBlock] using hat3)))
        | (refine step_append_lies _ (by rfl) _ _ _ (by rfl) (w.alloc (.cells #[.int .i64 0, .int .i64 0, .slice none 0 0, .slice none 0 0] 36)).heap.size 36 i0 _ 4 64 Try.underlying31 HI.out hz0 hz1 hz2 rfl (by omega) (.slice (some ⟨w.heap.size + 1, 0, none⟩) 0 0) 0 [] (by rfl) own2 ⟨bq, oq, none⟩ ks1.length cf news (by rfl) hnl HNW2.out hone hpos h63 hby hSe.1.size (((w.alloc (.cells #[.int .i64 0, .int .i64 0, .slice none 0 0, .slice none 0 0] 36)).alloc (.cells #[] 36))).drew.heap.size rfl ?_; intro gq cap W3 ho3 hg3 hat3 hlt3; rw [Nat.zero_add, List.nil_append] at ho3; rw [Nat.zero_add]; have hS3 := KEEP.out _ _ ((Below.refl _ _).grown hg3 hSe.1.size (fun k hk => by simp [Value.ownBlock] at hk; simp; omega)) hSe; have HP2 := hid (fun C => app_after (C := C) hpos hSe.1 (EB := w.heap.size + 1) (by simp) hg3 ho3)))
    all_goals
      clear KEEP KAL KST4 HNW1 HNW2 HNW3 own1 own2 own3
      go_wp2_with fail
      go_meet
      first
        | (have hq := HP2
           obtain ⟨q1, q2, q3, q4, q5, cur, q6, q7⟩ := hq.out _
           exact ⟨_, _, _, cur, rfl, q1, q2, q3, q4, q5, q6, q7⟩)
        | (have hq := HP1
           obtain ⟨q1, q2, q3, q4, q5, cur, q6, q7⟩ := hq.out _ _ _ _
           exact ⟨_, _, _, cur, rfl, q1, q2, q3, q4, q5, q6, q7⟩)
  case rest =>
  obtain ⟨wd, hwd⟩ : ∃ wd, wd = wc := ⟨_, rfl⟩
  subst hwd
  obtain ⟨g, gq, cap, cur, rfl, HG, HGQ, HGN, HBA, HX, HXQ, HCS⟩ := hcut
  clear KEEP KAL KST4 HNW1 HNW2 HNW3 own1 own2 own3 hS0 hSa hSe hSa1 hSe1 hx1 hx3 hnews hone hnl
  have HB2 := hid (HBW.out.trans (HBA.out.mono (by simp)))
  have HN2 := hid ((HBA.out.block w.heap.size (by simp)).trans HN1.out)
  have hgw : w.heap.size + 1 ≤ g := by have := HG.out; simp only [World.size_alloc] at this; exact this
  have hgqw : w.heap.size + 1 ≤ gq := by have := HGQ.out; simp only [World.size_alloc] at this; exact this
  have c3 := (HB2.out.cell (p := ⟨b1, o1 + 3, none⟩) l1).trans X3.out
  have cb := (HB2.out.cell (p := ⟨b0, o0, none⟩) lb).trans YB.out
  have cp := (HB2.out.cell (p := ⟨bc, oc + 1, none⟩) hlc).trans P1.out
  have c0 := (HB2.out.cell (p := ⟨bc, oc, none⟩) hlc).trans (by have h := K0.out; simpa using h)
  have u0 := (HB2.out.cell (p := ⟨bf, of + m * 4, none⟩) hlf).trans T0.out
  have u1 := (HB2.out.cell (p := ⟨bf, of + m * 4 + 1, none⟩) hlf).trans T1.out
  have u2 := (HB2.out.cell (p := ⟨bf, of + m * 4 + 2, none⟩) hlf).trans T2.out
  have u3 := (HB2.out.cell (p := ⟨bf, of + m * 4 + 3, none⟩) hlf).trans T3.out
  have x3 := heap_cell HX.out (j := 3) rfl
  obtain ⟨s0, w0⟩ := put_kid HXQ.out HCS.out hJl 0 (by omega)
  obtain ⟨s1, w1⟩ := put_kid HXQ.out HCS.out hJl 1 (by omega)
  obtain ⟨s2, w2⟩ := put_kid HXQ.out HCS.out hJl 2 (by omega)
  obtain ⟨s3, w3⟩ := put_kid HXQ.out HCS.out hJl 3 (by omega)
  simp only [Nat.zero_mul, Nat.zero_add] at w0 w1 w2 w3
  have n0 := heap_free HXQ.out (0 * 4)
  have n1 := heap_free HXQ.out (0 * 4 + 1)
  have n2 := heap_free HXQ.out (0 * 4 + 2)
  have n3 := heap_free HXQ.out (0 * 4 + 3)
  simp only [Nat.zero_mul, Nat.zero_add] at n0 n1 n2 n3
  have im0 : (0 : Int) ≤ (m : Int) := by omega
  have im1 : (m : Int) < (fs.length : Int) := by omega
  have ij : (0 : Int) < (ks1.length : Int) := by omega
  have hd0 : (Below w.heap.size w wd.drew ∧ wd.drew.heap[g]? = some (.cells #[.int .i64 k1, .int .i64 v1, .slice ads1 ds1.length cds1, .slice (some ⟨gq, 0, none⟩) ks1.length cap] 36) ∧ wd.drew.heap[w.heap.size]? = some (.cells #[.int .i64 0, .int .i64 0, .slice none 0 0, .slice none 0 0] 36) ∧ wd.drew.cell? ⟨g, 3, none⟩ = some (.slice (some ⟨gq, 0, none⟩) ks1.length cap) ∧ wd.drew.cell? ⟨b0, o0, none⟩ = some (.slice (some ⟨bf, of, none⟩) fs.length cfs) ∧ wd.drew.cell? ⟨b1, o1 + 3, none⟩ = some (.slice (some ⟨bc, oc, none⟩) ks1.length cks1) ∧ wd.drew.cell? ⟨bc, oc + 1, none⟩ = some (.int .i64 (m : Int)) ∧ wd.drew.cell? ⟨bf, of + m * 4, none⟩ = some (.int .i64 k5) ∧ wd.drew.cell? ⟨bf, of + m * 4 + 1, none⟩ = some (.int .i64 v5) ∧ wd.drew.cell? ⟨bf, of + m * 4 + 2, none⟩ = some (.slice ad5 ds5.length cd5) ∧ wd.drew.cell? ⟨bf, of + m * 4 + 3, none⟩ = some (.slice ak5 ks5.length ck5)) := ⟨HB2.out.drew, HX.out, HN2.out, x3, cb, c3, cp, u0, u1, u2, u3⟩
  have hgg : g ≠ gq := HGN.out
  have hb5 : ∀ {p : Nat} {X : Prop}, p < w.heap.size → p ≠ gq := fun {p X} h => by omega
  have hst : ∀ (V : World) (i : Nat) (z : Value), ((Below w.heap.size w V ∧ V.heap[g]? = some (.cells #[.int .i64 k1, .int .i64 v1, .slice ads1 ds1.length cds1, .slice (some ⟨gq, 0, none⟩) ks1.length cap] 36) ∧ V.heap[w.heap.size]? = some (.cells #[.int .i64 0, .int .i64 0, .slice none 0 0, .slice none 0 0] 36) ∧ V.cell? ⟨g, 3, none⟩ = some (.slice (some ⟨gq, 0, none⟩) ks1.length cap) ∧ V.cell? ⟨b0, o0, none⟩ = some (.slice (some ⟨bf, of, none⟩) fs.length cfs) ∧ V.cell? ⟨b1, o1 + 3, none⟩ = some (.slice (some ⟨bc, oc, none⟩) ks1.length cks1) ∧ V.cell? ⟨bc, oc + 1, none⟩ = some (.int .i64 (m : Int)) ∧ V.cell? ⟨bf, of + m * 4, none⟩ = some (.int .i64 k5) ∧ V.cell? ⟨bf, of + m * 4 + 1, none⟩ = some (.int .i64 v5) ∧ V.cell? ⟨bf, of + m * 4 + 2, none⟩ = some (.slice ad5 ds5.length cd5) ∧ V.cell? ⟨bf, of + m * 4 + 3, none⟩ = some (.slice ak5 ks5.length ck5))) → ((Below w.heap.size w (V.setCell ⟨gq, i, none⟩ z) ∧ (V.setCell ⟨gq, i, none⟩ z).heap[g]? = some (.cells #[.int .i64 k1, .int .i64 v1, .slice ads1 ds1.length cds1, .slice (some ⟨gq, 0, none⟩) ks1.length cap] 36) ∧ (V.setCell ⟨gq, i, none⟩ z).heap[w.heap.size]? = some (.cells #[.int .i64 0, .int .i64 0, .slice none 0 0, .slice none 0 0] 36) ∧ (V.setCell ⟨gq, i, none⟩ z).cell? ⟨g, 3, none⟩ = some (.slice (some ⟨gq, 0, none⟩) ks1.length cap) ∧ (V.setCell ⟨gq, i, none⟩ z).cell? ⟨b0, o0, none⟩ = some (.slice (some ⟨bf, of, none⟩) fs.length cfs) ∧ (V.setCell ⟨gq, i, none⟩ z).cell? ⟨b1, o1 + 3, none⟩ = some (.slice (some ⟨bc, oc, none⟩) ks1.length cks1) ∧ (V.setCell ⟨gq, i, none⟩ z).cell? ⟨bc, oc + 1, none⟩ = some (.int .i64 (m : Int)) ∧ (V.setCell ⟨gq, i, none⟩ z).cell? ⟨bf, of + m * 4, none⟩ = some (.int .i64 k5) ∧ (V.setCell ⟨gq, i, none⟩ z).cell? ⟨bf, of + m * 4 + 1, none⟩ = some (.int .i64 v5) ∧ (V.setCell ⟨gq, i, none⟩ z).cell? ⟨bf, of + m * 4 + 2, none⟩ = some (.slice ad5 ds5.length cd5) ∧ (V.setCell ⟨gq, i, none⟩ z).cell? ⟨bf, of + m * 4 + 3, none⟩ = some (.slice ak5 ks5.length ck5))) := fun V i z ⟨h1, h2, h3, h4, h5, h6, h7, h8, h9, h10, h11⟩ =>
    ⟨h1.setCell (by simp; omega) _, (heap_set_ne0 z hgg).trans h2, (heap_set_ne0 z (by omega)).trans h3, (World.cell?_of_block (heap_set_ne0 z hgg)).trans h4, (World.cell?_of_block (heap_set_ne0 z (by have := lb; simp only; omega))).trans h5, (World.cell?_of_block (heap_set_ne0 z (by have := l1; simp only; omega))).trans h6, (World.cell?_of_block (heap_set_ne0 z (by have := hlc; simp only; omega))).trans h7, (World.cell?_of_block (heap_set_ne0 z (by have := hlf; simp only; omega))).trans h8, (World.cell?_of_block (heap_set_ne0 z (by have := hlf; simp only; omega))).trans h9, (World.cell?_of_block (heap_set_ne0 z (by have := hlf; simp only; omega))).trans h10, (World.cell?_of_block (heap_set_ne0 z (by have := hlf; simp only; omega))).trans h11⟩
  have KST5 := hid (fun (V : World) (i0 i1 i2 i3 : Nat) (p q r u : Value) (h : (Below w.heap.size w V ∧ V.heap[g]? = some (.cells #[.int .i64 k1, .int .i64 v1, .slice ads1 ds1.length cds1, .slice (some ⟨gq, 0, none⟩) ks1.length cap] 36) ∧ V.heap[w.heap.size]? = some (.cells #[.int .i64 0, .int .i64 0, .slice none 0 0, .slice none 0 0] 36) ∧ V.cell? ⟨g, 3, none⟩ = some (.slice (some ⟨gq, 0, none⟩) ks1.length cap) ∧ V.cell? ⟨b0, o0, none⟩ = some (.slice (some ⟨bf, of, none⟩) fs.length cfs) ∧ V.cell? ⟨b1, o1 + 3, none⟩ = some (.slice (some ⟨bc, oc, none⟩) ks1.length cks1) ∧ V.cell? ⟨bc, oc + 1, none⟩ = some (.int .i64 (m : Int)) ∧ V.cell? ⟨bf, of + m * 4, none⟩ = some (.int .i64 k5) ∧ V.cell? ⟨bf, of + m * 4 + 1, none⟩ = some (.int .i64 v5) ∧ V.cell? ⟨bf, of + m * 4 + 2, none⟩ = some (.slice ad5 ds5.length cd5) ∧ V.cell? ⟨bf, of + m * 4 + 3, none⟩ = some (.slice ak5 ks5.length ck5))) => hst _ i3 u (hst _ i2 r (hst _ i1 q (hst V i0 p h))))
  have hd1 : (Below w.heap.size w wd ∧ wd.heap[g]? = some (.cells #[.int .i64 k1, .int .i64 v1, .slice ads1 ds1.length cds1, .slice (some ⟨gq, 0, none⟩) ks1.length cap] 36) ∧ wd.heap[w.heap.size]? = some (.cells #[.int .i64 0, .int .i64 0, .slice none 0 0, .slice none 0 0] 36) ∧ wd.cell? ⟨g, 3, none⟩ = some (.slice (some ⟨gq, 0, none⟩) ks1.length cap) ∧ wd.cell? ⟨b0, o0, none⟩ = some (.slice (some ⟨bf, of, none⟩) fs.length cfs) ∧ wd.cell? ⟨b1, o1 + 3, none⟩ = some (.slice (some ⟨bc, oc, none⟩) ks1.length cks1) ∧ wd.cell? ⟨bc, oc + 1, none⟩ = some (.int .i64 (m : Int)) ∧ wd.cell? ⟨bf, of + m * 4, none⟩ = some (.int .i64 k5) ∧ wd.cell? ⟨bf, of + m * 4 + 1, none⟩ = some (.int .i64 v5) ∧ wd.cell? ⟨bf, of + m * 4 + 2, none⟩ = some (.slice ad5 ds5.length cd5) ∧ wd.cell? ⟨bf, of + m * 4 + 3, none⟩ = some (.slice ak5 ks5.length ck5)) := ⟨HB2.out, HX.out, HN2.out, x3, cb, c3, cp, u0, u1, u2, u3⟩
  have KST6 := hid (fun (i0 i1 i2 i3 : Nat) (p q r u : Value) => (⟨(KST5.out wd i0 i1 i2 i3 p q r u hd1).1.drew, (KST5.out wd i0 i1 i2 i3 p q r u hd1).2⟩ : (Below w.heap.size w ((((wd.setCell ⟨gq, i0, none⟩ p).setCell ⟨gq, i1, none⟩ q).setCell ⟨gq, i2, none⟩ r).setCell ⟨gq, i3, none⟩ u).drew ∧ ((((wd.setCell ⟨gq, i0, none⟩ p).setCell ⟨gq, i1, none⟩ q).setCell ⟨gq, i2, none⟩ r).setCell ⟨gq, i3, none⟩ u).drew.heap[g]? = some (.cells #[.int .i64 k1, .int .i64 v1, .slice ads1 ds1.length cds1, .slice (some ⟨gq, 0, none⟩) ks1.length cap] 36) ∧ ((((wd.setCell ⟨gq, i0, none⟩ p).setCell ⟨gq, i1, none⟩ q).setCell ⟨gq, i2, none⟩ r).setCell ⟨gq, i3, none⟩ u).drew.heap[w.heap.size]? = some (.cells #[.int .i64 0, .int .i64 0, .slice none 0 0, .slice none 0 0] 36) ∧ ((((wd.setCell ⟨gq, i0, none⟩ p).setCell ⟨gq, i1, none⟩ q).setCell ⟨gq, i2, none⟩ r).setCell ⟨gq, i3, none⟩ u).drew.cell? ⟨g, 3, none⟩ = some (.slice (some ⟨gq, 0, none⟩) ks1.length cap) ∧ ((((wd.setCell ⟨gq, i0, none⟩ p).setCell ⟨gq, i1, none⟩ q).setCell ⟨gq, i2, none⟩ r).setCell ⟨gq, i3, none⟩ u).drew.cell? ⟨b0, o0, none⟩ = some (.slice (some ⟨bf, of, none⟩) fs.length cfs) ∧ ((((wd.setCell ⟨gq, i0, none⟩ p).setCell ⟨gq, i1, none⟩ q).setCell ⟨gq, i2, none⟩ r).setCell ⟨gq, i3, none⟩ u).drew.cell? ⟨b1, o1 + 3, none⟩ = some (.slice (some ⟨bc, oc, none⟩) ks1.length cks1) ∧ ((((wd.setCell ⟨gq, i0, none⟩ p).setCell ⟨gq, i1, none⟩ q).setCell ⟨gq, i2, none⟩ r).setCell ⟨gq, i3, none⟩ u).drew.cell? ⟨bc, oc + 1, none⟩ = some (.int .i64 (m : Int)) ∧ ((((wd.setCell ⟨gq, i0, none⟩ p).setCell ⟨gq, i1, none⟩ q).setCell ⟨gq, i2, none⟩ r).setCell ⟨gq, i3, none⟩ u).drew.cell? ⟨bf, of + m * 4, none⟩ = some (.int .i64 k5) ∧ ((((wd.setCell ⟨gq, i0, none⟩ p).setCell ⟨gq, i1, none⟩ q).setCell ⟨gq, i2, none⟩ r).setCell ⟨gq, i3, none⟩ u).drew.cell? ⟨bf, of + m * 4 + 1, none⟩ = some (.int .i64 v5) ∧ ((((wd.setCell ⟨gq, i0, none⟩ p).setCell ⟨gq, i1, none⟩ q).setCell ⟨gq, i2, none⟩ r).setCell ⟨gq, i3, none⟩ u).drew.cell? ⟨bf, of + m * 4 + 2, none⟩ = some (.slice ad5 ds5.length cd5) ∧ ((((wd.setCell ⟨gq, i0, none⟩ p).setCell ⟨gq, i1, none⟩ q).setCell ⟨gq, i2, none⟩ r).setCell ⟨gq, i3, none⟩ u).drew.cell? ⟨bf, of + m * 4 + 3, none⟩ = some (.slice ak5 ks5.length ck5))))
  clear hst hb5 hd1
  go_upto_region 5 with fail
  go_cut [] from 9 (fun wx => Hid (Below w.heap.size w wx) ∧ Hid (wx.heap[g]? = some (.cells #[.int .i64 k1, .int .i64 v1, .slice ads1 ds1.length cds1, .slice (some ⟨gq, 0, none⟩) ks1.length cap] 36)) ∧ Hid (wx.heap[w.heap.size]? = some (.cells #[.int .i64 0, .int .i64 0, .slice none 0 0, .slice none 0 0] 36)))
  case first =>
    go_region_held3 (fun V => (Below w.heap.size w V ∧ V.heap[g]? = some (.cells #[.int .i64 k1, .int .i64 v1, .slice ads1 ds1.length cds1, .slice (some ⟨gq, 0, none⟩) ks1.length cap] 36) ∧ V.heap[w.heap.size]? = some (.cells #[.int .i64 0, .int .i64 0, .slice none 0 0, .slice none 0 0] 36) ∧ V.cell? ⟨g, 3, none⟩ = some (.slice (some ⟨gq, 0, none⟩) ks1.length cap) ∧ V.cell? ⟨b0, o0, none⟩ = some (.slice (some ⟨bf, of, none⟩) fs.length cfs) ∧ V.cell? ⟨b1, o1 + 3, none⟩ = some (.slice (some ⟨bc, oc, none⟩) ks1.length cks1) ∧ V.cell? ⟨bc, oc + 1, none⟩ = some (.int .i64 (m : Int)) ∧ V.cell? ⟨bf, of + m * 4, none⟩ = some (.int .i64 k5) ∧ V.cell? ⟨bf, of + m * 4 + 1, none⟩ = some (.int .i64 v5) ∧ V.cell? ⟨bf, of + m * 4 + 2, none⟩ = some (.slice ad5 ds5.length cd5) ∧ V.cell? ⟨bf, of + m * 4 + 3, none⟩ = some (.slice ak5 ks5.length ck5)))
      (with_reducible first | exact hd0 | exact KST6.out _ _ _ _ _ _ _ _)
      (fail)
    have HS5 := hid (show Below w.heap.size w _ ∧ _ from by assumption)
    clear KST5 KST6 hd0 u0 u1 u2 u3 x3 c3 cb cp c0 n0 n1 n2 n3 w0 w1 w2 w3 HX HN2
    rename_i hHeld5
    clear hHeld5
    go_wp2_with fail
    go_meet
    exact ⟨hid HS5.out.1, hid HS5.out.2.1, hid HS5.out.2.2.1⟩
  case rest =>
  obtain ⟨HB5, HX5, HN5⟩ := hcut
  clear KST5 KST6 hd0 u0 u1 u2 u3 x3 c3 cb cp c0 n0 n1 n2 n3 w0 w1 w2 w3 HX HN2
  have e0 := heap_cell HX5.out (j := 0) rfl
  have e1 := heap_cell HX5.out (j := 1) rfl
  have e2 := heap_cell HX5.out (j := 2) rfl
  have e3 := heap_cell HX5.out (j := 3) rfl
  have z0 := heap_free HN5.out 0
  have r0 := heap_cell HN5.out (j := 0) rfl
  have z1 := heap_free HN5.out 1
  have r1 := heap_cell HN5.out (j := 1) rfl
  have z2 := heap_free HN5.out 2
  have r2 := heap_cell HN5.out (j := 2) rfl
  have z3 := heap_free HN5.out 3
  have r3 := heap_cell HN5.out (j := 3) rfl
  go_wp2_with fail
  have hS := set4 HN5.out (.int .i64 k1) (.int .i64 v1) (.slice ads1 ds1.length cds1) (.slice (some ⟨gq, 0, none⟩) ks1.length cap)
  have hc0 := heap_cell hS (j := 0) rfl
  have hc1 := heap_cell hS (j := 1) rfl
  have hc2 := heap_cell hS (j := 2) rfl
  have hc3 := heap_cell hS (j := 3) rfl
  refine bodyPost_ret (v := .agg #[.int .i64 k1, .int .i64 v1, .slice ads1 ds1.length cds1, .slice (some ⟨gq, 0, none⟩) ks1.length cap]) (by simp [results, Try.results68, go_sem, hc0, hc1, hc2, hc3]) rfl ?_
  exact ⟨_, _, _, _, _, _, _, _, rfl, set4_below HB5.out (Nat.le_refl _) _ _ _ _⟩
set_option maxRecDepth 100000 in
set_option maxHeartbeats 4000000 in
theorem expand_1 (fs : List Co) (afs : Option Addr) (cfs : Nat) (k1 v1 : Int) (ds1 : List Int) (ks1 : List Co) (b0 o0 b1 o1 : Nat) (vk : Value) (vt : Int) (dt : List Int) (kt : List Co) (k0 v0 : Int) (d0 : List Int) (q0 : List Co) (w : World) (hM : ks1.length ≤ 1048576) (yb : w.cell? ⟨b0, o0, none⟩ = some (.slice afs fs.length cfs)) (hrb : RdL w (Co.ds fs) (.slice afs fs.length cfs)) (hat : AtC w b1 o1 (Co.mk k1 v1 ds1 ks1)) (hk : RdL w (Co.ds ks1) vk) (hj : ks1[1]? = some (.mk 11 vt dt kt)) (hv0 : 0 ≤ vt) (hv1 : vt < fs.length) (hj0 : ks1[0]? = some (.mk k0 v0 d0 q0)) (hk0 : k0 ≠ 11) :
    Calls Try.prog 68 #[.pointer (some ⟨b0, o0, none⟩), .pointer (some ⟨b1, o1, none⟩), vk] w (GivesW w) := by
  obtain ⟨i0, hi, hz0, hz1, hz2⟩ := info_parts infoCo
  have HI := hid hi
  have hJl : 1 < ks1.length := (List.getElem?_eq_some_iff.1 hj).1
  have hpos : 0 < ks1.length := by omega
  obtain ⟨af, cf, rfl, hf1, hf2, hfall⟩ := kids_at hk
  obtain ⟨bq, oq, rfl, hlq, hfall⟩ := hfall hpos
  obtain ⟨news, hnl, hnews, hone⟩ := kid_cells hfall
  obtain ⟨m, rfl⟩ : ∃ m : Nat, vt = m := ⟨vt.toNat, by omega⟩
  have hm : m < fs.length := by omega
  obtain ⟨_, _, e, hb1, hb2, hball⟩ := kids_at hrb
  simp only [Value.slice.injEq, true_and] at e
  obtain ⟨rfl, rfl⟩ := e
  obtain ⟨bf, of, rfl, hlf, hball⟩ := hball (by omega)
  obtain ⟨t, ht⟩ : ∃ t, fs[m]? = some t := ⟨_, List.getElem?_eq_getElem hm⟩
  obtain ⟨k5, v5, ds5, ks5⟩ := t
  obtain ⟨ad5, cd5, ak5, ck5, t0, t1, t2, t3, _⟩ := hball m _ ht
  have hrk := hat
  obtain ⟨ads1, cds1, aks1, cks1, x0, x1, x2, x3, hr⟩ := hat
  obtain ⟨_, _, e, hc1, hc2, hall⟩ := kids_at hr.fCo.2.2.2
  simp only [Value.slice.injEq, true_and] at e
  obtain ⟨rfl, rfl⟩ := e
  obtain ⟨bc, oc, rfl, hlc, hall⟩ := hall hpos
  obtain ⟨_, _, _, _, p0, p1, _, _, _⟩ := hall 1 _ hj
  obtain ⟨_, _, _, _, pz, _, _, _, _⟩ := hall 0 _ hj0
  simp only [Nat.zero_mul, Nat.add_zero] at pz
  have K0 := hid pz
  have g11 : (k0 == 11) = false := by simp [hk0]
  clear hk0 hj0 pz
  simp only [Nat.one_mul] at p0 p1
  have hB1 : Below w.heap.size w (w.alloc (.cells #[.int .i64 0, .int .i64 0, .slice none 0 0, .slice none 0 0] 36)) := (Below.refl _ _).alloc (Nat.le_refl _) _
  have l1 := World.block_lt_of_cell? _ _ x0
  have lb := World.block_lt_of_cell? _ _ yb
  have y0 := (hB1.cell (p := ⟨b1, o1, none⟩) l1).trans x0
  have y1 := (hB1.cell (p := ⟨b1, o1 + 1, none⟩) l1).trans x1
  have y2 := (hB1.cell (p := ⟨b1, o1 + 2, none⟩) l1).trans x2
  have HBW := hid hB1
  have HN1 := hid (show (w.alloc (.cells #[.int .i64 0, .int .i64 0, .slice none 0 0, .slice none 0 0] 36)).heap[w.heap.size]? = some (.cells #[.int .i64 0, .int .i64 0, .slice none 0 0, .slice none 0 0] 36) from heap_alloc_new w _)
  have h63 : 0 + ks1.length ≤ maxLen := by simp only [maxLen]; omega
  have hby : (0 + ks1.length) * 64 ≤ 140737488355328 := by omega
  have X3 := hid x3
  have YB := hid yb
  have P1 := hid p1
  have T0 := hid t0
  have T1 := hid t1
  have T2 := hid t2
  have T3 := hid t3
  clear hall hball hfall hrk hr x0 x1 x2 x3 yb p1 t0 t1 t2 t3 hB1 hk hrb hi ht hj
  go_enter Try.func68, Try.ntmps68
  go_wp2_with fail
  have hS0 : (Below (w.alloc (.cells #[.int .i64 0, .int .i64 0, .slice none 0 0, .slice none 0 0] 36)).heap.size (w.alloc (.cells #[.int .i64 0, .int .i64 0, .slice none 0 0, .slice none 0 0] 36)) ((w.alloc (.cells #[.int .i64 0, .int .i64 0, .slice none 0 0, .slice none 0 0] 36))).drew ∧ ((w.alloc (.cells #[.int .i64 0, .int .i64 0, .slice none 0 0, .slice none 0 0] 36))).drew.cell? ⟨b1, o1, none⟩ = some (.int .i64 k1) ∧ ((w.alloc (.cells #[.int .i64 0, .int .i64 0, .slice none 0 0, .slice none 0 0] 36))).drew.cell? ⟨b1, o1 + 1, none⟩ = some (.int .i64 v1) ∧ ((w.alloc (.cells #[.int .i64 0, .int .i64 0, .slice none 0 0, .slice none 0 0] 36))).drew.cell? ⟨b1, o1 + 2, none⟩ = some (.slice ads1 ds1.length cds1)) := ⟨(Below.refl _ _).drew, y0, y1, y2⟩
  have hkeep : ∀ V V' : World, Below (w.alloc (.cells #[.int .i64 0, .int .i64 0, .slice none 0 0, .slice none 0 0] 36)).heap.size V V' → ((Below (w.alloc (.cells #[.int .i64 0, .int .i64 0, .slice none 0 0, .slice none 0 0] 36)).heap.size (w.alloc (.cells #[.int .i64 0, .int .i64 0, .slice none 0 0, .slice none 0 0] 36)) V ∧ V.cell? ⟨b1, o1, none⟩ = some (.int .i64 k1) ∧ V.cell? ⟨b1, o1 + 1, none⟩ = some (.int .i64 v1) ∧ V.cell? ⟨b1, o1 + 2, none⟩ = some (.slice ads1 ds1.length cds1))) → ((Below (w.alloc (.cells #[.int .i64 0, .int .i64 0, .slice none 0 0, .slice none 0 0] 36)).heap.size (w.alloc (.cells #[.int .i64 0, .int .i64 0, .slice none 0 0, .slice none 0 0] 36)) V' ∧ V'.cell? ⟨b1, o1, none⟩ = some (.int .i64 k1) ∧ V'.cell? ⟨b1, o1 + 1, none⟩ = some (.int .i64 v1) ∧ V'.cell? ⟨b1, o1 + 2, none⟩ = some (.slice ads1 ds1.length cds1))) := fun V V' hb ⟨h, h0, h1, h2⟩ => ⟨h.trans hb, (hb.cell (p := ⟨b1, o1, none⟩) (World.block_lt_of_cell? _ _ y0)).trans h0, (hb.cell (p := ⟨b1, o1 + 1, none⟩) (World.block_lt_of_cell? _ _ y1)).trans h1, (hb.cell (p := ⟨b1, o1 + 2, none⟩) (World.block_lt_of_cell? _ _ y2)).trans h2⟩
  have KEEP := hid hkeep
  have KAL := hid (fun (V : World) (ob : Obj) (h : (Below (w.alloc (.cells #[.int .i64 0, .int .i64 0, .slice none 0 0, .slice none 0 0] 36)).heap.size (w.alloc (.cells #[.int .i64 0, .int .i64 0, .slice none 0 0, .slice none 0 0] 36)) V ∧ V.cell? ⟨b1, o1, none⟩ = some (.int .i64 k1) ∧ V.cell? ⟨b1, o1 + 1, none⟩ = some (.int .i64 v1) ∧ V.cell? ⟨b1, o1 + 2, none⟩ = some (.slice ads1 ds1.length cds1))) => hkeep V (V.alloc ob) ((Below.refl _ _).alloc h.1.size _) h)
  have KST4 := hid (fun (V : World) (b : Nat) (p q r u : Value) (hg : (w.alloc (.cells #[.int .i64 0, .int .i64 0, .slice none 0 0, .slice none 0 0] 36)).heap.size ≤ b) (h : (Below (w.alloc (.cells #[.int .i64 0, .int .i64 0, .slice none 0 0, .slice none 0 0] 36)).heap.size (w.alloc (.cells #[.int .i64 0, .int .i64 0, .slice none 0 0, .slice none 0 0] 36)) V ∧ V.cell? ⟨b1, o1, none⟩ = some (.int .i64 k1) ∧ V.cell? ⟨b1, o1 + 1, none⟩ = some (.int .i64 v1) ∧ V.cell? ⟨b1, o1 + 2, none⟩ = some (.slice ads1 ds1.length cds1))) => hkeep V (set4W V b p q r u) (set4_below (Below.refl _ _) hg p q r u) h)
  have hSa : (Below (w.alloc (.cells #[.int .i64 0, .int .i64 0, .slice none 0 0, .slice none 0 0] 36)).heap.size (w.alloc (.cells #[.int .i64 0, .int .i64 0, .slice none 0 0, .slice none 0 0] 36)) (((w.alloc (.cells #[.int .i64 0, .int .i64 0, .slice none 0 0, .slice none 0 0] 36)).alloc (.cells #[.int .i64 0, .int .i64 0, .slice none 0 0, .slice none 0 0] 36))).drew ∧ (((w.alloc (.cells #[.int .i64 0, .int .i64 0, .slice none 0 0, .slice none 0 0] 36)).alloc (.cells #[.int .i64 0, .int .i64 0, .slice none 0 0, .slice none 0 0] 36))).drew.cell? ⟨b1, o1, none⟩ = some (.int .i64 k1) ∧ (((w.alloc (.cells #[.int .i64 0, .int .i64 0, .slice none 0 0, .slice none 0 0] 36)).alloc (.cells #[.int .i64 0, .int .i64 0, .slice none 0 0, .slice none 0 0] 36))).drew.cell? ⟨b1, o1 + 1, none⟩ = some (.int .i64 v1) ∧ (((w.alloc (.cells #[.int .i64 0, .int .i64 0, .slice none 0 0, .slice none 0 0] 36)).alloc (.cells #[.int .i64 0, .int .i64 0, .slice none 0 0, .slice none 0 0] 36))).drew.cell? ⟨b1, o1 + 2, none⟩ = some (.slice ads1 ds1.length cds1)) := KAL.out _ _ hS0
  have hSe : (Below (w.alloc (.cells #[.int .i64 0, .int .i64 0, .slice none 0 0, .slice none 0 0] 36)).heap.size (w.alloc (.cells #[.int .i64 0, .int .i64 0, .slice none 0 0, .slice none 0 0] 36)) (((w.alloc (.cells #[.int .i64 0, .int .i64 0, .slice none 0 0, .slice none 0 0] 36)).alloc (.cells #[] 36))).drew ∧ (((w.alloc (.cells #[.int .i64 0, .int .i64 0, .slice none 0 0, .slice none 0 0] 36)).alloc (.cells #[] 36))).drew.cell? ⟨b1, o1, none⟩ = some (.int .i64 k1) ∧ (((w.alloc (.cells #[.int .i64 0, .int .i64 0, .slice none 0 0, .slice none 0 0] 36)).alloc (.cells #[] 36))).drew.cell? ⟨b1, o1 + 1, none⟩ = some (.int .i64 v1) ∧ (((w.alloc (.cells #[.int .i64 0, .int .i64 0, .slice none 0 0, .slice none 0 0] 36)).alloc (.cells #[] 36))).drew.cell? ⟨b1, o1 + 2, none⟩ = some (.slice ads1 ds1.length cds1)) := KAL.out _ _ hS0
  have hSa1 : (Below (w.alloc (.cells #[.int .i64 0, .int .i64 0, .slice none 0 0, .slice none 0 0] 36)).heap.size (w.alloc (.cells #[.int .i64 0, .int .i64 0, .slice none 0 0, .slice none 0 0] 36)) ((((w.alloc (.cells #[.int .i64 0, .int .i64 0, .slice none 0 0, .slice none 0 0] 36)).alloc (.cells #[.int .i64 0, .int .i64 0, .slice none 0 0, .slice none 0 0] 36)).alloc (.cells #[] 36))).drew ∧ ((((w.alloc (.cells #[.int .i64 0, .int .i64 0, .slice none 0 0, .slice none 0 0] 36)).alloc (.cells #[.int .i64 0, .int .i64 0, .slice none 0 0, .slice none 0 0] 36)).alloc (.cells #[] 36))).drew.cell? ⟨b1, o1, none⟩ = some (.int .i64 k1) ∧ ((((w.alloc (.cells #[.int .i64 0, .int .i64 0, .slice none 0 0, .slice none 0 0] 36)).alloc (.cells #[.int .i64 0, .int .i64 0, .slice none 0 0, .slice none 0 0] 36)).alloc (.cells #[] 36))).drew.cell? ⟨b1, o1 + 1, none⟩ = some (.int .i64 v1) ∧ ((((w.alloc (.cells #[.int .i64 0, .int .i64 0, .slice none 0 0, .slice none 0 0] 36)).alloc (.cells #[.int .i64 0, .int .i64 0, .slice none 0 0, .slice none 0 0] 36)).alloc (.cells #[] 36))).drew.cell? ⟨b1, o1 + 2, none⟩ = some (.slice ads1 ds1.length cds1)) := KAL.out _ _ hSa
  have hSe1 : (Below (w.alloc (.cells #[.int .i64 0, .int .i64 0, .slice none 0 0, .slice none 0 0] 36)).heap.size (w.alloc (.cells #[.int .i64 0, .int .i64 0, .slice none 0 0, .slice none 0 0] 36)) ((((w.alloc (.cells #[.int .i64 0, .int .i64 0, .slice none 0 0, .slice none 0 0] 36)).alloc (.cells #[] 36)).alloc (.cells #[.int .i64 0, .int .i64 0, .slice none 0 0, .slice none 0 0] 36))).drew ∧ ((((w.alloc (.cells #[.int .i64 0, .int .i64 0, .slice none 0 0, .slice none 0 0] 36)).alloc (.cells #[] 36)).alloc (.cells #[.int .i64 0, .int .i64 0, .slice none 0 0, .slice none 0 0] 36))).drew.cell? ⟨b1, o1, none⟩ = some (.int .i64 k1) ∧ ((((w.alloc (.cells #[.int .i64 0, .int .i64 0, .slice none 0 0, .slice none 0 0] 36)).alloc (.cells #[] 36)).alloc (.cells #[.int .i64 0, .int .i64 0, .slice none 0 0, .slice none 0 0] 36))).drew.cell? ⟨b1, o1 + 1, none⟩ = some (.int .i64 v1) ∧ ((((w.alloc (.cells #[.int .i64 0, .int .i64 0, .slice none 0 0, .slice none 0 0] 36)).alloc (.cells #[] 36)).alloc (.cells #[.int .i64 0, .int .i64 0, .slice none 0 0, .slice none 0 0] 36))).drew.cell? ⟨b1, o1 + 2, none⟩ = some (.slice ads1 ds1.length cds1)) := KAL.out _ _ hSe
  have own1 : ((((w.alloc (.cells #[.int .i64 0, .int .i64 0, .slice none 0 0, .slice none 0 0] 36)).alloc (.cells #[.int .i64 0, .int .i64 0, .slice none 0 0, .slice none 0 0] 36)).alloc (.cells #[] 36))).drew.ownsRow (w.alloc (.cells #[.int .i64 0, .int .i64 0, .slice none 0 0, .slice none 0 0] 36)).heap.size 36 4 (.slice (some ⟨w.heap.size + 1 + 1, 0, none⟩) 0 0) 0 [] := by
    have h := made_row ((w.alloc (.cells #[.int .i64 0, .int .i64 0, .slice none 0 0, .slice none 0 0] 36)).alloc (.cells #[.int .i64 0, .int .i64 0, .slice none 0 0, .slice none 0 0] 36)) (w.alloc (.cells #[.int .i64 0, .int .i64 0, .slice none 0 0, .slice none 0 0] 36)).heap.size (by simp) 36
    simp only [World.size_alloc] at h ⊢
    exact h
  have own2 : (((w.alloc (.cells #[.int .i64 0, .int .i64 0, .slice none 0 0, .slice none 0 0] 36)).alloc (.cells #[] 36))).drew.ownsRow (w.alloc (.cells #[.int .i64 0, .int .i64 0, .slice none 0 0, .slice none 0 0] 36)).heap.size 36 4 (.slice (some ⟨w.heap.size + 1, 0, none⟩) 0 0) 0 [] := by
    have h := made_row (w.alloc (.cells #[.int .i64 0, .int .i64 0, .slice none 0 0, .slice none 0 0] 36)) (w.alloc (.cells #[.int .i64 0, .int .i64 0, .slice none 0 0, .slice none 0 0] 36)).heap.size (Nat.le_refl _) 36
    simp only [World.size_alloc] at h ⊢
    exact h
  have own3 : ((((w.alloc (.cells #[.int .i64 0, .int .i64 0, .slice none 0 0, .slice none 0 0] 36)).alloc (.cells #[] 36)).alloc (.cells #[.int .i64 0, .int .i64 0, .slice none 0 0, .slice none 0 0] 36))).drew.ownsRow (w.alloc (.cells #[.int .i64 0, .int .i64 0, .slice none 0 0, .slice none 0 0] 36)).heap.size 36 4 (.slice (some ⟨w.heap.size + 1, 0, none⟩) 0 0) 0 [] := by
    have h := ownsRow.below (made_row (w.alloc (.cells #[.int .i64 0, .int .i64 0, .slice none 0 0, .slice none 0 0] 36)) (w.alloc (.cells #[.int .i64 0, .int .i64 0, .slice none 0 0, .slice none 0 0] 36)).heap.size (Nat.le_refl _) 36) (((Below.refl _ _).alloc (Nat.le_refl _) (.cells #[.int .i64 0, .int .i64 0, .slice none 0 0, .slice none 0 0] 36)))
    simp only [World.size_alloc] at h ⊢
    exact h
  have hx1 : ((((w.alloc (.cells #[.int .i64 0, .int .i64 0, .slice none 0 0, .slice none 0 0] 36)).alloc (.cells #[.int .i64 0, .int .i64 0, .slice none 0 0, .slice none 0 0] 36)).alloc (.cells #[] 36))).drew.heap[w.heap.size + 1]? = some (.cells #[.int .i64 0, .int .i64 0, .slice none 0 0, .slice none 0 0] 36) := by
    show ((((w.alloc (.cells #[.int .i64 0, .int .i64 0, .slice none 0 0, .slice none 0 0] 36)).alloc (.cells #[.int .i64 0, .int .i64 0, .slice none 0 0, .slice none 0 0] 36)).alloc (.cells #[] 36))).heap[w.heap.size + 1]? = _
    rw [Below.heap_alloc _ _ _ (by simp)]
    have h := heap_alloc_new (w.alloc (.cells #[.int .i64 0, .int .i64 0, .slice none 0 0, .slice none 0 0] 36)) (.cells #[.int .i64 0, .int .i64 0, .slice none 0 0, .slice none 0 0] 36)
    simp only [World.size_alloc] at h ⊢
    exact h
  have hx3 : ((((w.alloc (.cells #[.int .i64 0, .int .i64 0, .slice none 0 0, .slice none 0 0] 36)).alloc (.cells #[] 36)).alloc (.cells #[.int .i64 0, .int .i64 0, .slice none 0 0, .slice none 0 0] 36))).drew.heap[w.heap.size + 1 + 1]? = some (.cells #[.int .i64 0, .int .i64 0, .slice none 0 0, .slice none 0 0] 36) := by
    have h := heap_alloc_new ((w.alloc (.cells #[.int .i64 0, .int .i64 0, .slice none 0 0, .slice none 0 0] 36)).alloc (.cells #[] 36)) (.cells #[.int .i64 0, .int .i64 0, .slice none 0 0, .slice none 0 0] 36)
    simp only [World.size_alloc] at h ⊢
    exact h
  have hnw : ∀ V : World, Below (w.alloc (.cells #[.int .i64 0, .int .i64 0, .slice none 0 0, .slice none 0 0] 36)).heap.size (w.alloc (.cells #[.int .i64 0, .int .i64 0, .slice none 0 0, .slice none 0 0] 36)) V → ∀ (j : Nat) (u : Value), news[j]? = some u → V.cell? ((⟨bq, oq, none⟩ : Addr).add j) = some u := fun V hV j u h => by
    rw [Addr.add_lit]
    exact ((HBW.out.trans (hV.mono HBW.out.size)).cell (p := ⟨bq, oq + j, none⟩) hlq).trans (hnews j u h)
  have HNW1 := hid (hnw _ hSa1.1)
  have HNW2 := hid (hnw _ hSe.1)
  have HNW3 := hid (hnw _ hSe1.1)
  clear hkeep hnw
  go_upto_region 1 with fail
  go_cut [7] from 9 (fun t7 wx => ∃ (g gq cap : Nat) (cur : Array Value), t7 = .pointer (some ⟨g, 0, none⟩) ∧ Hid ((w.alloc (.cells #[.int .i64 0, .int .i64 0, .slice none 0 0, .slice none 0 0] 36)).heap.size ≤ g) ∧ Hid ((w.alloc (.cells #[.int .i64 0, .int .i64 0, .slice none 0 0, .slice none 0 0] 36)).heap.size ≤ gq) ∧ Hid (g ≠ gq) ∧ Hid (Below (w.alloc (.cells #[.int .i64 0, .int .i64 0, .slice none 0 0, .slice none 0 0] 36)).heap.size (w.alloc (.cells #[.int .i64 0, .int .i64 0, .slice none 0 0, .slice none 0 0] 36)) wx) ∧ Hid (wx.heap[g]? = some (.cells #[.int .i64 k1, .int .i64 v1, .slice ads1 ds1.length cds1, .slice (some ⟨gq, 0, none⟩) ks1.length cap] 36)) ∧ Hid (wx.heap[gq]? = some (.cells cur 36)) ∧ Hid (ks1.length * 4 ≤ cur.size))
  case first =>
    go_region_held3 (fun V => (Below (w.alloc (.cells #[.int .i64 0, .int .i64 0, .slice none 0 0, .slice none 0 0] 36)).heap.size (w.alloc (.cells #[.int .i64 0, .int .i64 0, .slice none 0 0, .slice none 0 0] 36)) V ∧ V.cell? ⟨b1, o1, none⟩ = some (.int .i64 k1) ∧ V.cell? ⟨b1, o1 + 1, none⟩ = some (.int .i64 v1) ∧ V.cell? ⟨b1, o1 + 2, none⟩ = some (.slice ads1 ds1.length cds1)))
      (with_reducible first | exact hS0 | exact hSa | exact hSe | exact hSa1 | exact hSe1 | exact hS3 | exact KAL.out _ _ hS3 | exact KST4.out _ _ _ _ _ _ (by simp) hS3)
      (first
        | (refine step_append_lies _ (by rfl) _ _ _ (by rfl) (w.alloc (.cells #[.int .i64 0, .int .i64 0, .slice none 0 0, .slice none 0 0] 36)).heap.size 36 i0 _ 4 64 Try.underlying31 HI.out hz0 hz1 hz2 rfl (by omega) (.slice (some ⟨w.heap.size + 1 + 1, 0, none⟩) 0 0) 0 [] (by rfl) own1 ⟨bq, oq, none⟩ ks1.length cf news (by rfl) hnl HNW1.out hone hpos h63 hby hSa1.1.size ((((w.alloc (.cells #[.int .i64 0, .int .i64 0, .slice none 0 0, .slice none 0 0] 36)).alloc (.cells #[.int .i64 0, .int .i64 0, .slice none 0 0, .slice none 0 0] 36)).alloc (.cells #[] 36))).drew.heap.size rfl ?_; intro gq cap W3 ho3 hg3 hat3 hlt3; rw [Nat.zero_add, List.nil_append] at ho3; rw [Nat.zero_add]; have hord := true; have hxx := (hg3.block _ (Array.getElem?_eq_some_iff.1 hx1).1 (by simp [Value.ownBlock])).trans hx1; have z0 := heap_free hxx 0; have z1 := heap_free hxx 1; have z2 := heap_free hxx 2; have z3 := heap_free hxx 3; have r0 := heap_cell hxx (j := 0) rfl; have r1 := heap_cell hxx (j := 1) rfl; have r2 := heap_cell hxx (j := 2) rfl; have r3 := heap_cell hxx (j := 3) rfl; have hS3 := KEEP.out _ _ ((Below.refl _ _).grown hg3 hSa1.1.size (fun k hk => by simp [Value.ownBlock] at hk; simp; omega)) hSa1; have HP1 := hid (fun p q r u => app_before (p := p) (q := q) (r := r) (u := u) (g := w.heap.size + 1) (EB := w.heap.size + 1 + 1) hpos hSa1.1 (by simp) hx1 (by simp; try omega) (by omega) hg3 ho3 (by simpa [Value.ownBlock] using hat3)))
        | (refine step_append_lies _ (by rfl) _ _ _ (by rfl) (w.alloc (.cells #[.int .i64 0, .int .i64 0, .slice none 0 0, .slice none 0 0] 36)).heap.size 36 i0 _ 4 64 Try.underlying31 HI.out hz0 hz1 hz2 rfl (by omega) (.slice (some ⟨w.heap.size + 1, 0, none⟩) 0 0) 0 [] (by rfl) own3 ⟨bq, oq, none⟩ ks1.length cf news (by rfl) hnl HNW3.out hone hpos h63 hby hSe1.1.size ((((w.alloc (.cells #[.int .i64 0, .int .i64 0, .slice none 0 0, .slice none 0 0] 36)).alloc (.cells #[] 36)).alloc (.cells #[.int .i64 0, .int .i64 0, .slice none 0 0, .slice none 0 0] 36))).drew.heap.size rfl ?_; intro gq cap W3 ho3 hg3 hat3 hlt3; rw [Nat.zero_add, List.nil_append] at ho3; rw [Nat.zero_add]; have hxx := (hg3.block _ (Array.getElem?_eq_some_iff.1 hx3).1 (by simp [Value.ownBlock])).trans hx3; have z0 := heap_free hxx 0; have z1 := heap_free hxx 1; have z2 := heap_free hxx 2; have z3 := heap_free hxx 3; have r0 := heap_cell hxx (j := 0) rfl; have r1 := heap_cell hxx (j := 1) rfl; have r2 := heap_cell hxx (j := 2) rfl; have r3 := heap_cell hxx (j := 3) rfl; have hS3 := KEEP.out _ _ ((Below.refl _ _).grown hg3 hSe1.1.size (fun k hk => by simp [Value.ownBlock] at hk; simp; omega)) hSe1; have HP1 := hid (fun p q r u => app_before (p := p) (q := q) (r := r) (u := u) (g := w.heap.size + 1 + 1) (EB := w.heap.size + 1) hpos hSe1.1 (by simp; try omega) hx3 (by simp) (by omega) hg3 ho3 (by simpa [Value.ownBlock] using hat3)))
        | (refine step_append_lies _ (by rfl) _ _ _ (by rfl) (w.alloc (.cells #[.int .i64 0, .int .i64 0, .slice none 0 0, .slice none 0 0] 36)).heap.size 36 i0 _ 4 64 Try.underlying31 HI.out hz0 hz1 hz2 rfl (by omega) (.slice (some ⟨w.heap.size + 1, 0, none⟩) 0 0) 0 [] (by rfl) own2 ⟨bq, oq, none⟩ ks1.length cf news (by rfl) hnl HNW2.out hone hpos h63 hby hSe.1.size (((w.alloc (.cells #[.int .i64 0, .int .i64 0, .slice none 0 0, .slice none 0 0] 36)).alloc (.cells #[] 36))).drew.heap.size rfl ?_; intro gq cap W3 ho3 hg3 hat3 hlt3; rw [Nat.zero_add, List.nil_append] at ho3; rw [Nat.zero_add]; have hS3 := KEEP.out _ _ ((Below.refl _ _).grown hg3 hSe.1.size (fun k hk => by simp [Value.ownBlock] at hk; simp; omega)) hSe; have HP2 := hid (fun C => app_after (C := C) hpos hSe.1 (EB := w.heap.size + 1) (by simp) hg3 ho3)))
    all_goals
      clear KEEP KAL KST4 HNW1 HNW2 HNW3 own1 own2 own3
      go_wp2_with fail
      go_meet
      first
        | (have hq := HP2
           obtain ⟨q1, q2, q3, q4, q5, cur, q6, q7⟩ := hq.out _
           exact ⟨_, _, _, cur, rfl, q1, q2, q3, q4, q5, q6, q7⟩)
        | (have hq := HP1
           obtain ⟨q1, q2, q3, q4, q5, cur, q6, q7⟩ := hq.out _ _ _ _
           exact ⟨_, _, _, cur, rfl, q1, q2, q3, q4, q5, q6, q7⟩)
  case rest =>
  obtain ⟨wd, hwd⟩ : ∃ wd, wd = wc := ⟨_, rfl⟩
  subst hwd
  obtain ⟨g, gq, cap, cur, rfl, HG, HGQ, HGN, HBA, HX, HXQ, HCS⟩ := hcut
  clear KEEP KAL KST4 HNW1 HNW2 HNW3 own1 own2 own3 hS0 hSa hSe hSa1 hSe1 hx1 hx3 hnews hone hnl
  have HB2 := hid (HBW.out.trans (HBA.out.mono (by simp)))
  have HN2 := hid ((HBA.out.block w.heap.size (by simp)).trans HN1.out)
  have hgw : w.heap.size + 1 ≤ g := by have := HG.out; simp only [World.size_alloc] at this; exact this
  have hgqw : w.heap.size + 1 ≤ gq := by have := HGQ.out; simp only [World.size_alloc] at this; exact this
  have c3 := (HB2.out.cell (p := ⟨b1, o1 + 3, none⟩) l1).trans X3.out
  have cb := (HB2.out.cell (p := ⟨b0, o0, none⟩) lb).trans YB.out
  have cp := (HB2.out.cell (p := ⟨bc, oc + 4 + 1, none⟩) hlc).trans P1.out
  have c0 := (HB2.out.cell (p := ⟨bc, oc, none⟩) hlc).trans K0.out
  have u0 := (HB2.out.cell (p := ⟨bf, of + m * 4, none⟩) hlf).trans T0.out
  have u1 := (HB2.out.cell (p := ⟨bf, of + m * 4 + 1, none⟩) hlf).trans T1.out
  have u2 := (HB2.out.cell (p := ⟨bf, of + m * 4 + 2, none⟩) hlf).trans T2.out
  have u3 := (HB2.out.cell (p := ⟨bf, of + m * 4 + 3, none⟩) hlf).trans T3.out
  have x3 := heap_cell HX.out (j := 3) rfl
  obtain ⟨s0, w0⟩ := put_kid HXQ.out HCS.out hJl 0 (by omega)
  obtain ⟨s1, w1⟩ := put_kid HXQ.out HCS.out hJl 1 (by omega)
  obtain ⟨s2, w2⟩ := put_kid HXQ.out HCS.out hJl 2 (by omega)
  obtain ⟨s3, w3⟩ := put_kid HXQ.out HCS.out hJl 3 (by omega)
  simp only [Nat.one_mul, Nat.add_zero] at w0 w1 w2 w3
  have n0 := heap_free HXQ.out (1 * 4)
  have n1 := heap_free HXQ.out (1 * 4 + 1)
  have n2 := heap_free HXQ.out (1 * 4 + 2)
  have n3 := heap_free HXQ.out (1 * 4 + 3)
  simp only [Nat.one_mul] at n0 n1 n2 n3
  have im0 : (0 : Int) ≤ (m : Int) := by omega
  have im1 : (m : Int) < (fs.length : Int) := by omega
  have ij : (1 : Int) < (ks1.length : Int) := by omega
  have hd0 : (Below w.heap.size w wd.drew ∧ wd.drew.heap[g]? = some (.cells #[.int .i64 k1, .int .i64 v1, .slice ads1 ds1.length cds1, .slice (some ⟨gq, 0, none⟩) ks1.length cap] 36) ∧ wd.drew.heap[w.heap.size]? = some (.cells #[.int .i64 0, .int .i64 0, .slice none 0 0, .slice none 0 0] 36) ∧ wd.drew.cell? ⟨g, 3, none⟩ = some (.slice (some ⟨gq, 0, none⟩) ks1.length cap) ∧ wd.drew.cell? ⟨b0, o0, none⟩ = some (.slice (some ⟨bf, of, none⟩) fs.length cfs) ∧ wd.drew.cell? ⟨b1, o1 + 3, none⟩ = some (.slice (some ⟨bc, oc, none⟩) ks1.length cks1) ∧ wd.drew.cell? ⟨bc, oc + 4 + 1, none⟩ = some (.int .i64 (m : Int)) ∧ wd.drew.cell? ⟨bf, of + m * 4, none⟩ = some (.int .i64 k5) ∧ wd.drew.cell? ⟨bf, of + m * 4 + 1, none⟩ = some (.int .i64 v5) ∧ wd.drew.cell? ⟨bf, of + m * 4 + 2, none⟩ = some (.slice ad5 ds5.length cd5) ∧ wd.drew.cell? ⟨bf, of + m * 4 + 3, none⟩ = some (.slice ak5 ks5.length ck5)) := ⟨HB2.out.drew, HX.out, HN2.out, x3, cb, c3, cp, u0, u1, u2, u3⟩
  have hgg : g ≠ gq := HGN.out
  have hb5 : ∀ {p : Nat} {X : Prop}, p < w.heap.size → p ≠ gq := fun {p X} h => by omega
  have hst : ∀ (V : World) (i : Nat) (z : Value), ((Below w.heap.size w V ∧ V.heap[g]? = some (.cells #[.int .i64 k1, .int .i64 v1, .slice ads1 ds1.length cds1, .slice (some ⟨gq, 0, none⟩) ks1.length cap] 36) ∧ V.heap[w.heap.size]? = some (.cells #[.int .i64 0, .int .i64 0, .slice none 0 0, .slice none 0 0] 36) ∧ V.cell? ⟨g, 3, none⟩ = some (.slice (some ⟨gq, 0, none⟩) ks1.length cap) ∧ V.cell? ⟨b0, o0, none⟩ = some (.slice (some ⟨bf, of, none⟩) fs.length cfs) ∧ V.cell? ⟨b1, o1 + 3, none⟩ = some (.slice (some ⟨bc, oc, none⟩) ks1.length cks1) ∧ V.cell? ⟨bc, oc + 4 + 1, none⟩ = some (.int .i64 (m : Int)) ∧ V.cell? ⟨bf, of + m * 4, none⟩ = some (.int .i64 k5) ∧ V.cell? ⟨bf, of + m * 4 + 1, none⟩ = some (.int .i64 v5) ∧ V.cell? ⟨bf, of + m * 4 + 2, none⟩ = some (.slice ad5 ds5.length cd5) ∧ V.cell? ⟨bf, of + m * 4 + 3, none⟩ = some (.slice ak5 ks5.length ck5))) → ((Below w.heap.size w (V.setCell ⟨gq, i, none⟩ z) ∧ (V.setCell ⟨gq, i, none⟩ z).heap[g]? = some (.cells #[.int .i64 k1, .int .i64 v1, .slice ads1 ds1.length cds1, .slice (some ⟨gq, 0, none⟩) ks1.length cap] 36) ∧ (V.setCell ⟨gq, i, none⟩ z).heap[w.heap.size]? = some (.cells #[.int .i64 0, .int .i64 0, .slice none 0 0, .slice none 0 0] 36) ∧ (V.setCell ⟨gq, i, none⟩ z).cell? ⟨g, 3, none⟩ = some (.slice (some ⟨gq, 0, none⟩) ks1.length cap) ∧ (V.setCell ⟨gq, i, none⟩ z).cell? ⟨b0, o0, none⟩ = some (.slice (some ⟨bf, of, none⟩) fs.length cfs) ∧ (V.setCell ⟨gq, i, none⟩ z).cell? ⟨b1, o1 + 3, none⟩ = some (.slice (some ⟨bc, oc, none⟩) ks1.length cks1) ∧ (V.setCell ⟨gq, i, none⟩ z).cell? ⟨bc, oc + 4 + 1, none⟩ = some (.int .i64 (m : Int)) ∧ (V.setCell ⟨gq, i, none⟩ z).cell? ⟨bf, of + m * 4, none⟩ = some (.int .i64 k5) ∧ (V.setCell ⟨gq, i, none⟩ z).cell? ⟨bf, of + m * 4 + 1, none⟩ = some (.int .i64 v5) ∧ (V.setCell ⟨gq, i, none⟩ z).cell? ⟨bf, of + m * 4 + 2, none⟩ = some (.slice ad5 ds5.length cd5) ∧ (V.setCell ⟨gq, i, none⟩ z).cell? ⟨bf, of + m * 4 + 3, none⟩ = some (.slice ak5 ks5.length ck5))) := fun V i z ⟨h1, h2, h3, h4, h5, h6, h7, h8, h9, h10, h11⟩ =>
    ⟨h1.setCell (by simp; omega) _, (heap_set_ne0 z hgg).trans h2, (heap_set_ne0 z (by omega)).trans h3, (World.cell?_of_block (heap_set_ne0 z hgg)).trans h4, (World.cell?_of_block (heap_set_ne0 z (by have := lb; simp only; omega))).trans h5, (World.cell?_of_block (heap_set_ne0 z (by have := l1; simp only; omega))).trans h6, (World.cell?_of_block (heap_set_ne0 z (by have := hlc; simp only; omega))).trans h7, (World.cell?_of_block (heap_set_ne0 z (by have := hlf; simp only; omega))).trans h8, (World.cell?_of_block (heap_set_ne0 z (by have := hlf; simp only; omega))).trans h9, (World.cell?_of_block (heap_set_ne0 z (by have := hlf; simp only; omega))).trans h10, (World.cell?_of_block (heap_set_ne0 z (by have := hlf; simp only; omega))).trans h11⟩
  have KST5 := hid (fun (V : World) (i0 i1 i2 i3 : Nat) (p q r u : Value) (h : (Below w.heap.size w V ∧ V.heap[g]? = some (.cells #[.int .i64 k1, .int .i64 v1, .slice ads1 ds1.length cds1, .slice (some ⟨gq, 0, none⟩) ks1.length cap] 36) ∧ V.heap[w.heap.size]? = some (.cells #[.int .i64 0, .int .i64 0, .slice none 0 0, .slice none 0 0] 36) ∧ V.cell? ⟨g, 3, none⟩ = some (.slice (some ⟨gq, 0, none⟩) ks1.length cap) ∧ V.cell? ⟨b0, o0, none⟩ = some (.slice (some ⟨bf, of, none⟩) fs.length cfs) ∧ V.cell? ⟨b1, o1 + 3, none⟩ = some (.slice (some ⟨bc, oc, none⟩) ks1.length cks1) ∧ V.cell? ⟨bc, oc + 4 + 1, none⟩ = some (.int .i64 (m : Int)) ∧ V.cell? ⟨bf, of + m * 4, none⟩ = some (.int .i64 k5) ∧ V.cell? ⟨bf, of + m * 4 + 1, none⟩ = some (.int .i64 v5) ∧ V.cell? ⟨bf, of + m * 4 + 2, none⟩ = some (.slice ad5 ds5.length cd5) ∧ V.cell? ⟨bf, of + m * 4 + 3, none⟩ = some (.slice ak5 ks5.length ck5))) => hst _ i3 u (hst _ i2 r (hst _ i1 q (hst V i0 p h))))
  have hd1 : (Below w.heap.size w wd ∧ wd.heap[g]? = some (.cells #[.int .i64 k1, .int .i64 v1, .slice ads1 ds1.length cds1, .slice (some ⟨gq, 0, none⟩) ks1.length cap] 36) ∧ wd.heap[w.heap.size]? = some (.cells #[.int .i64 0, .int .i64 0, .slice none 0 0, .slice none 0 0] 36) ∧ wd.cell? ⟨g, 3, none⟩ = some (.slice (some ⟨gq, 0, none⟩) ks1.length cap) ∧ wd.cell? ⟨b0, o0, none⟩ = some (.slice (some ⟨bf, of, none⟩) fs.length cfs) ∧ wd.cell? ⟨b1, o1 + 3, none⟩ = some (.slice (some ⟨bc, oc, none⟩) ks1.length cks1) ∧ wd.cell? ⟨bc, oc + 4 + 1, none⟩ = some (.int .i64 (m : Int)) ∧ wd.cell? ⟨bf, of + m * 4, none⟩ = some (.int .i64 k5) ∧ wd.cell? ⟨bf, of + m * 4 + 1, none⟩ = some (.int .i64 v5) ∧ wd.cell? ⟨bf, of + m * 4 + 2, none⟩ = some (.slice ad5 ds5.length cd5) ∧ wd.cell? ⟨bf, of + m * 4 + 3, none⟩ = some (.slice ak5 ks5.length ck5)) := ⟨HB2.out, HX.out, HN2.out, x3, cb, c3, cp, u0, u1, u2, u3⟩
  have KST6 := hid (fun (i0 i1 i2 i3 : Nat) (p q r u : Value) => (⟨(KST5.out wd i0 i1 i2 i3 p q r u hd1).1.drew, (KST5.out wd i0 i1 i2 i3 p q r u hd1).2⟩ : (Below w.heap.size w ((((wd.setCell ⟨gq, i0, none⟩ p).setCell ⟨gq, i1, none⟩ q).setCell ⟨gq, i2, none⟩ r).setCell ⟨gq, i3, none⟩ u).drew ∧ ((((wd.setCell ⟨gq, i0, none⟩ p).setCell ⟨gq, i1, none⟩ q).setCell ⟨gq, i2, none⟩ r).setCell ⟨gq, i3, none⟩ u).drew.heap[g]? = some (.cells #[.int .i64 k1, .int .i64 v1, .slice ads1 ds1.length cds1, .slice (some ⟨gq, 0, none⟩) ks1.length cap] 36) ∧ ((((wd.setCell ⟨gq, i0, none⟩ p).setCell ⟨gq, i1, none⟩ q).setCell ⟨gq, i2, none⟩ r).setCell ⟨gq, i3, none⟩ u).drew.heap[w.heap.size]? = some (.cells #[.int .i64 0, .int .i64 0, .slice none 0 0, .slice none 0 0] 36) ∧ ((((wd.setCell ⟨gq, i0, none⟩ p).setCell ⟨gq, i1, none⟩ q).setCell ⟨gq, i2, none⟩ r).setCell ⟨gq, i3, none⟩ u).drew.cell? ⟨g, 3, none⟩ = some (.slice (some ⟨gq, 0, none⟩) ks1.length cap) ∧ ((((wd.setCell ⟨gq, i0, none⟩ p).setCell ⟨gq, i1, none⟩ q).setCell ⟨gq, i2, none⟩ r).setCell ⟨gq, i3, none⟩ u).drew.cell? ⟨b0, o0, none⟩ = some (.slice (some ⟨bf, of, none⟩) fs.length cfs) ∧ ((((wd.setCell ⟨gq, i0, none⟩ p).setCell ⟨gq, i1, none⟩ q).setCell ⟨gq, i2, none⟩ r).setCell ⟨gq, i3, none⟩ u).drew.cell? ⟨b1, o1 + 3, none⟩ = some (.slice (some ⟨bc, oc, none⟩) ks1.length cks1) ∧ ((((wd.setCell ⟨gq, i0, none⟩ p).setCell ⟨gq, i1, none⟩ q).setCell ⟨gq, i2, none⟩ r).setCell ⟨gq, i3, none⟩ u).drew.cell? ⟨bc, oc + 4 + 1, none⟩ = some (.int .i64 (m : Int)) ∧ ((((wd.setCell ⟨gq, i0, none⟩ p).setCell ⟨gq, i1, none⟩ q).setCell ⟨gq, i2, none⟩ r).setCell ⟨gq, i3, none⟩ u).drew.cell? ⟨bf, of + m * 4, none⟩ = some (.int .i64 k5) ∧ ((((wd.setCell ⟨gq, i0, none⟩ p).setCell ⟨gq, i1, none⟩ q).setCell ⟨gq, i2, none⟩ r).setCell ⟨gq, i3, none⟩ u).drew.cell? ⟨bf, of + m * 4 + 1, none⟩ = some (.int .i64 v5) ∧ ((((wd.setCell ⟨gq, i0, none⟩ p).setCell ⟨gq, i1, none⟩ q).setCell ⟨gq, i2, none⟩ r).setCell ⟨gq, i3, none⟩ u).drew.cell? ⟨bf, of + m * 4 + 2, none⟩ = some (.slice ad5 ds5.length cd5) ∧ ((((wd.setCell ⟨gq, i0, none⟩ p).setCell ⟨gq, i1, none⟩ q).setCell ⟨gq, i2, none⟩ r).setCell ⟨gq, i3, none⟩ u).drew.cell? ⟨bf, of + m * 4 + 3, none⟩ = some (.slice ak5 ks5.length ck5))))
  clear hst hb5 hd1
  go_upto_region 5 with fail
  go_cut [] from 9 (fun wx => Hid (Below w.heap.size w wx) ∧ Hid (wx.heap[g]? = some (.cells #[.int .i64 k1, .int .i64 v1, .slice ads1 ds1.length cds1, .slice (some ⟨gq, 0, none⟩) ks1.length cap] 36)) ∧ Hid (wx.heap[w.heap.size]? = some (.cells #[.int .i64 0, .int .i64 0, .slice none 0 0, .slice none 0 0] 36)))
  case first =>
    go_region_held3 (fun V => (Below w.heap.size w V ∧ V.heap[g]? = some (.cells #[.int .i64 k1, .int .i64 v1, .slice ads1 ds1.length cds1, .slice (some ⟨gq, 0, none⟩) ks1.length cap] 36) ∧ V.heap[w.heap.size]? = some (.cells #[.int .i64 0, .int .i64 0, .slice none 0 0, .slice none 0 0] 36) ∧ V.cell? ⟨g, 3, none⟩ = some (.slice (some ⟨gq, 0, none⟩) ks1.length cap) ∧ V.cell? ⟨b0, o0, none⟩ = some (.slice (some ⟨bf, of, none⟩) fs.length cfs) ∧ V.cell? ⟨b1, o1 + 3, none⟩ = some (.slice (some ⟨bc, oc, none⟩) ks1.length cks1) ∧ V.cell? ⟨bc, oc + 4 + 1, none⟩ = some (.int .i64 (m : Int)) ∧ V.cell? ⟨bf, of + m * 4, none⟩ = some (.int .i64 k5) ∧ V.cell? ⟨bf, of + m * 4 + 1, none⟩ = some (.int .i64 v5) ∧ V.cell? ⟨bf, of + m * 4 + 2, none⟩ = some (.slice ad5 ds5.length cd5) ∧ V.cell? ⟨bf, of + m * 4 + 3, none⟩ = some (.slice ak5 ks5.length ck5)))
      (with_reducible first | exact hd0 | exact KST6.out _ _ _ _ _ _ _ _)
      (fail)
    have HS5 := hid (show Below w.heap.size w _ ∧ _ from by assumption)
    clear KST5 KST6 hd0 u0 u1 u2 u3 x3 c3 cb cp c0 n0 n1 n2 n3 w0 w1 w2 w3 HX HN2
    rename_i hHeld5
    clear hHeld5
    go_wp2_with fail
    go_meet
    exact ⟨hid HS5.out.1, hid HS5.out.2.1, hid HS5.out.2.2.1⟩
  case rest =>
  obtain ⟨HB5, HX5, HN5⟩ := hcut
  clear KST5 KST6 hd0 u0 u1 u2 u3 x3 c3 cb cp c0 n0 n1 n2 n3 w0 w1 w2 w3 HX HN2
  have e0 := heap_cell HX5.out (j := 0) rfl
  have e1 := heap_cell HX5.out (j := 1) rfl
  have e2 := heap_cell HX5.out (j := 2) rfl
  have e3 := heap_cell HX5.out (j := 3) rfl
  have z0 := heap_free HN5.out 0
  have r0 := heap_cell HN5.out (j := 0) rfl
  have z1 := heap_free HN5.out 1
  have r1 := heap_cell HN5.out (j := 1) rfl
  have z2 := heap_free HN5.out 2
  have r2 := heap_cell HN5.out (j := 2) rfl
  have z3 := heap_free HN5.out 3
  have r3 := heap_cell HN5.out (j := 3) rfl
  go_wp2_with fail
  have hS := set4 HN5.out (.int .i64 k1) (.int .i64 v1) (.slice ads1 ds1.length cds1) (.slice (some ⟨gq, 0, none⟩) ks1.length cap)
  have hc0 := heap_cell hS (j := 0) rfl
  have hc1 := heap_cell hS (j := 1) rfl
  have hc2 := heap_cell hS (j := 2) rfl
  have hc3 := heap_cell hS (j := 3) rfl
  refine bodyPost_ret (v := .agg #[.int .i64 k1, .int .i64 v1, .slice ads1 ds1.length cds1, .slice (some ⟨gq, 0, none⟩) ks1.length cap]) (by simp [results, Try.results68, go_sem, hc0, hc1, hc2, hc3]) rfl ?_
  exact ⟨_, _, _, _, _, _, _, _, rfl, set4_below HB5.out (Nat.le_refl _) _ _ _ _⟩
end Go.Proofs.Ytejdbmeoaekhcaa
