/- Walks: choices, in the reference: that they return. No condition. -/
import Derived.Test.YtejdbmeoaekhcaaCtr
import Derived.Test.YtejdbmeoaekhcaaRdx
namespace Go.Proofs.Ytejdbmeoaekhcaa
open Go.ChangeShapes Go.WideShapes Go.ChangeAt Go.RowKit
open Go.Sort (grow)
set_option linter.unusedVariables false

set_option maxRecDepth 100000 in
set_option maxHeartbeats 4000000 in
theorem chosen_ten (v1 : Int) (ds1 : List Int) (v3 : Int) (ds3 : List Int) (ks3 : List Co) (vf : Value) (b1 o1 : Nat) (w : World) (hl : ds1.length = 2) (hat : AtC w b1 o1 (.mk 10 v1 ds1 [.mk 2 v3 ds3 ks3])) :
    Calls Try.prog 67 #[.pointer (some ⟨b1, o1, none⟩), vf] w (GivesW w) := by
  obtain ⟨ads1, cds1, aks1, cks1, x0, x1, x2, x3, hr⟩ := hat
  have hB1 : Below w.heap.size w (w.alloc (.cells #[.int .i64 0, .int .i64 0, .slice none 0 0, .slice none 0 0] 36)) := (Below.refl _ _).alloc (Nat.le_refl _) _
  obtain ⟨_, _, e, _, _, hall⟩ := kids_at (hr.fCo.2.2.2.below hB1)
  simp only [Value.slice.injEq, true_and] at e
  obtain ⟨rfl, rfl⟩ := e
  obtain ⟨bq, oq, rfl, hlq, hall⟩ := hall (by simp)
  obtain ⟨ad3, cd3, ak3, ck3, q0, q1, q2, q3, _⟩ := hall 0 _ rfl
  simp only [Nat.zero_mul, Nat.add_zero] at q0 q1 q2 q3
  obtain ⟨_, _, e, _, _, hd⟩ := (hr.fCo.2.2.1.below hB1).eIn
  simp only [Value.slice.injEq, true_and] at e
  obtain ⟨rfl, rfl⟩ := e
  obtain ⟨bd, od, rfl, hld, hd⟩ := hd (by omega)
  obtain ⟨i0, hi0⟩ : ∃ i, ds1[0]? = some i := ⟨_, List.getElem?_eq_getElem (by omega)⟩
  obtain ⟨i1, hi1⟩ : ∃ i, ds1[1]? = some i := ⟨_, List.getElem?_eq_getElem (by omega)⟩
  have e0 := (hd 0 i0 hi0).1
  have e1 := (hd 1 i1 hi1).1
  simp only [Nat.add_zero] at e0
  have l1 := World.block_lt_of_cell? _ _ x0
  have y0 := (hB1.cell (p := ⟨b1, o1, none⟩) l1).trans x0
  have y2 := (hB1.cell (p := ⟨b1, o1 + 2, none⟩) l1).trans x2
  have y3 : (w.alloc (.cells #[.int .i64 0, .int .i64 0, .slice none 0 0, .slice none 0 0] 36)).cell? ⟨b1, o1 + 3, none⟩ = some (.slice (some ⟨bq, oq, none⟩) 1 cks1) := (hB1.cell (p := ⟨b1, o1 + 3, none⟩) l1).trans x3
  rw [hl] at y2
  have HB1 := hid hB1
  have HN1 := hid (show (w.alloc (.cells #[.int .i64 0, .int .i64 0, .slice none 0 0, .slice none 0 0] 36)).heap[w.heap.size]? = some (.cells #[.int .i64 0, .int .i64 0, .slice none 0 0, .slice none 0 0] 36) from heap_alloc_new w _)
  clear hr hall hd x0 x1 x2 x3 hi0 hi1 hB1 l1 hl
  by_cases hv : v3 = 0
  case pos =>
    subst hv
    go_enter Try.func67, Try.ntmps67
    go_wp2_with fail
    refine (spec_R _ _).mono ?_
    rintro e w2 ⟨rfl, hb⟩
    have HN2 := hid ((hb.block w.heap.size (by simp)).trans HN1.out)
    have HB2 := hid (HB1.out.trans (hb.mono (by simp)))
    clear hb
    have z0 := heap_free HN2.out 0
    have r0 := heap_cell HN2.out (j := 0) rfl
    have z1 := heap_free HN2.out 1
    have r1 := heap_cell HN2.out (j := 1) rfl
    have z2 := heap_free HN2.out 2
    have r2 := heap_cell HN2.out (j := 2) rfl
    have z3 := heap_free HN2.out 3
    have r3 := heap_cell HN2.out (j := 3) rfl
    go_wp2_with fail
    have hS := set4 HN2.out (.int .i64 11) (.int .i64 i1) (.slice none 0 0) (.slice none 0 0)
    have hc0 := heap_cell hS (j := 0) rfl
    have hc1 := heap_cell hS (j := 1) rfl
    have hc2 := heap_cell hS (j := 2) rfl
    have hc3 := heap_cell hS (j := 3) rfl
    refine bodyPost_ret (v := .agg #[.int .i64 11, .int .i64 i1, .slice none 0 0, .slice none 0 0]) (by simp [results, Try.results67, go_sem, hc0, hc1, hc2, hc3]) rfl ?_
    exact ⟨_, _, _, _, _, _, _, _, rfl, set4_below HB2.out (Nat.le_refl _) _ _ _ _⟩
  case neg =>
    have gv : (v3 == 0) = false := by simp [hv]
    go_enter Try.func67, Try.ntmps67
    go_wp2_with fail
    refine (spec_R _ _).mono ?_
    rintro e w2 ⟨rfl, hb⟩
    have HN2 := hid ((hb.block w.heap.size (by simp)).trans HN1.out)
    have HB2 := hid (HB1.out.trans (hb.mono (by simp)))
    clear hb
    have z0 := heap_free HN2.out 0
    have r0 := heap_cell HN2.out (j := 0) rfl
    have z1 := heap_free HN2.out 1
    have r1 := heap_cell HN2.out (j := 1) rfl
    have z2 := heap_free HN2.out 2
    have r2 := heap_cell HN2.out (j := 2) rfl
    have z3 := heap_free HN2.out 3
    have r3 := heap_cell HN2.out (j := 3) rfl
    go_wp2_with fail
    have hS := set4 HN2.out (.int .i64 11) (.int .i64 i0) (.slice none 0 0) (.slice none 0 0)
    have hc0 := heap_cell hS (j := 0) rfl
    have hc1 := heap_cell hS (j := 1) rfl
    have hc2 := heap_cell hS (j := 2) rfl
    have hc3 := heap_cell hS (j := 3) rfl
    refine bodyPost_ret (v := .agg #[.int .i64 11, .int .i64 i0, .slice none 0 0, .slice none 0 0]) (by simp [results, Try.results67, go_sem, hc0, hc1, hc2, hc3]) rfl ?_
    exact ⟨_, _, _, _, _, _, _, _, rfl, set4_below HB2.out (Nat.le_refl _) _ _ _ _⟩
set_option maxRecDepth 100000 in
set_option maxHeartbeats 4000000 in
theorem chosen_nine (v1 : Int) (ds1 : List Int) (v3 : Int) (ds3 : List Int) (ks3 : List Co) (fs : List Co) (vf : Value) (b1 o1 : Nat) (w : World) (hv0 : 0 ≤ v3) (hv1 : v3 < ds1.length) (hat : AtC w b1 o1 (.mk 9 v1 ds1 [.mk 8 v3 ds3 ks3])) (hf : RdL w (Co.ds fs) vf) :
    Calls Try.prog 67 #[.pointer (some ⟨b1, o1, none⟩), vf] w (GivesW w) := by
  obtain ⟨af, cf, rfl, hf1, hf2, hfall⟩ := kids_at hf
  have hfl : fs.length ≤ 9223372036854775807 := Nat.le_trans hf1 hf2
  obtain ⟨m, rfl⟩ : ∃ m : Nat, v3 = m := ⟨v3.toNat, by omega⟩
  have hm : m < ds1.length := by omega
  obtain ⟨ads1, cds1, aks1, cks1, x0, x1, x2, x3, hr⟩ := hat
  have hB1 : Below w.heap.size w (w.alloc (.cells #[.int .i64 0, .int .i64 0, .slice none 0 0, .slice none 0 0] 36)) := (Below.refl _ _).alloc (Nat.le_refl _) _
  obtain ⟨_, _, e, _, _, hall⟩ := kids_at (hr.fCo.2.2.2.below hB1)
  simp only [Value.slice.injEq, true_and] at e
  obtain ⟨rfl, rfl⟩ := e
  obtain ⟨bq, oq, rfl, hlq, hall⟩ := hall (by simp)
  obtain ⟨ad3, cd3, ak3, ck3, q0, q1, q2, q3, _⟩ := hall 0 _ rfl
  simp only [Nat.zero_mul, Nat.add_zero] at q0 q1 q2 q3
  obtain ⟨_, _, e, hdc, hdc2, hd⟩ := (hr.fCo.2.2.1.below hB1).eIn
  simp only [Value.slice.injEq, true_and] at e
  obtain ⟨rfl, rfl⟩ := e
  obtain ⟨bd, od, rfl, hld, hd⟩ := hd (by omega)
  obtain ⟨i0, hi0⟩ : ∃ i, ds1[m]? = some i := ⟨_, List.getElem?_eq_getElem hm⟩
  have e0 := (hd m i0 hi0).1
  have l1 := World.block_lt_of_cell? _ _ x0
  have y0 := (hB1.cell (p := ⟨b1, o1, none⟩) l1).trans x0
  have y2 := (hB1.cell (p := ⟨b1, o1 + 2, none⟩) l1).trans x2
  have y3 : (w.alloc (.cells #[.int .i64 0, .int .i64 0, .slice none 0 0, .slice none 0 0] 36)).cell? ⟨b1, o1 + 3, none⟩ = some (.slice (some ⟨bq, oq, none⟩) 1 cks1) := (hB1.cell (p := ⟨b1, o1 + 3, none⟩) l1).trans x3
  have HFA := hid hfall
  have HB1 := hid hB1
  have HN1 := hid (show (w.alloc (.cells #[.int .i64 0, .int .i64 0, .slice none 0 0, .slice none 0 0] 36)).heap[w.heap.size]? = some (.cells #[.int .i64 0, .int .i64 0, .slice none 0 0, .slice none 0 0] 36) from heap_alloc_new w _)
  have hml : (m : Int) < (ds1.length : Int) := by omega
  have hm0 : (0 : Int) ≤ (m : Int) := by omega
  have hdl : ds1.length ≤ 9223372036854775807 := Nat.le_trans hdc hdc2
  have hS0 : (Below (w.alloc (.cells #[.int .i64 0, .int .i64 0, .slice none 0 0, .slice none 0 0] 36)).heap.size (w.alloc (.cells #[.int .i64 0, .int .i64 0, .slice none 0 0, .slice none 0 0] 36)) (w.alloc (.cells #[.int .i64 0, .int .i64 0, .slice none 0 0, .slice none 0 0] 36)).drew ∧ (w.alloc (.cells #[.int .i64 0, .int .i64 0, .slice none 0 0, .slice none 0 0] 36)).drew.cell? ⟨b1, o1, none⟩ = some (.int .i64 9) ∧ (w.alloc (.cells #[.int .i64 0, .int .i64 0, .slice none 0 0, .slice none 0 0] 36)).drew.cell? ⟨b1, o1 + 2, none⟩ = some (.slice (some ⟨bd, od, none⟩) ds1.length cds1) ∧ (w.alloc (.cells #[.int .i64 0, .int .i64 0, .slice none 0 0, .slice none 0 0] 36)).drew.cell? ⟨b1, o1 + 3, none⟩ = some (.slice (some ⟨bq, oq, none⟩) 1 cks1) ∧ (w.alloc (.cells #[.int .i64 0, .int .i64 0, .slice none 0 0, .slice none 0 0] 36)).drew.cell? ⟨bq, oq + 1, none⟩ = some (.int .i64 (m : Int)) ∧ (w.alloc (.cells #[.int .i64 0, .int .i64 0, .slice none 0 0, .slice none 0 0] 36)).drew.cell? ⟨bd, od + m, none⟩ = some (.int .i64 i0)) := ⟨(Below.refl _ _).drew, y0, y2, y3, q1, e0⟩
  have lq := hlq
  have hkeep : ∀ V V' : World, Below (w.alloc (.cells #[.int .i64 0, .int .i64 0, .slice none 0 0, .slice none 0 0] 36)).heap.size V V' → ((Below (w.alloc (.cells #[.int .i64 0, .int .i64 0, .slice none 0 0, .slice none 0 0] 36)).heap.size (w.alloc (.cells #[.int .i64 0, .int .i64 0, .slice none 0 0, .slice none 0 0] 36)) V ∧ V.cell? ⟨b1, o1, none⟩ = some (.int .i64 9) ∧ V.cell? ⟨b1, o1 + 2, none⟩ = some (.slice (some ⟨bd, od, none⟩) ds1.length cds1) ∧ V.cell? ⟨b1, o1 + 3, none⟩ = some (.slice (some ⟨bq, oq, none⟩) 1 cks1) ∧ V.cell? ⟨bq, oq + 1, none⟩ = some (.int .i64 (m : Int)) ∧ V.cell? ⟨bd, od + m, none⟩ = some (.int .i64 i0))) → ((Below (w.alloc (.cells #[.int .i64 0, .int .i64 0, .slice none 0 0, .slice none 0 0] 36)).heap.size (w.alloc (.cells #[.int .i64 0, .int .i64 0, .slice none 0 0, .slice none 0 0] 36)) V' ∧ V'.cell? ⟨b1, o1, none⟩ = some (.int .i64 9) ∧ V'.cell? ⟨b1, o1 + 2, none⟩ = some (.slice (some ⟨bd, od, none⟩) ds1.length cds1) ∧ V'.cell? ⟨b1, o1 + 3, none⟩ = some (.slice (some ⟨bq, oq, none⟩) 1 cks1) ∧ V'.cell? ⟨bq, oq + 1, none⟩ = some (.int .i64 (m : Int)) ∧ V'.cell? ⟨bd, od + m, none⟩ = some (.int .i64 i0))) := fun V V' hb ⟨h, c0, c2, c3, c4, c5⟩ =>
    ⟨h.trans hb, (hb.cell (p := ⟨b1, o1, none⟩) (World.block_lt_of_cell? _ _ y0)).trans c0, (hb.cell (p := ⟨b1, o1 + 2, none⟩) (World.block_lt_of_cell? _ _ y2)).trans c2, (hb.cell (p := ⟨b1, o1 + 3, none⟩) (World.block_lt_of_cell? _ _ y3)).trans c3, (hb.cell (p := ⟨bq, oq + 1, none⟩) hlq).trans c4, (hb.cell (p := ⟨bd, od + m, none⟩) hld).trans c5⟩
  have KEEP := hid hkeep
  have KAL := hid (fun (V : World) (ob : Obj) (h : (Below (w.alloc (.cells #[.int .i64 0, .int .i64 0, .slice none 0 0, .slice none 0 0] 36)).heap.size (w.alloc (.cells #[.int .i64 0, .int .i64 0, .slice none 0 0, .slice none 0 0] 36)) V ∧ V.cell? ⟨b1, o1, none⟩ = some (.int .i64 9) ∧ V.cell? ⟨b1, o1 + 2, none⟩ = some (.slice (some ⟨bd, od, none⟩) ds1.length cds1) ∧ V.cell? ⟨b1, o1 + 3, none⟩ = some (.slice (some ⟨bq, oq, none⟩) 1 cks1) ∧ V.cell? ⟨bq, oq + 1, none⟩ = some (.int .i64 (m : Int)) ∧ V.cell? ⟨bd, od + m, none⟩ = some (.int .i64 i0))) => hkeep V (V.alloc ob) ((Below.refl _ _).alloc h.1.size _) h)
  have KST4 := hid (fun (V : World) (p q r u : Value) (h : (Below (w.alloc (.cells #[.int .i64 0, .int .i64 0, .slice none 0 0, .slice none 0 0] 36)).heap.size (w.alloc (.cells #[.int .i64 0, .int .i64 0, .slice none 0 0, .slice none 0 0] 36)) V ∧ V.cell? ⟨b1, o1, none⟩ = some (.int .i64 9) ∧ V.cell? ⟨b1, o1 + 2, none⟩ = some (.slice (some ⟨bd, od, none⟩) ds1.length cds1) ∧ V.cell? ⟨b1, o1 + 3, none⟩ = some (.slice (some ⟨bq, oq, none⟩) 1 cks1) ∧ V.cell? ⟨bq, oq + 1, none⟩ = some (.int .i64 (m : Int)) ∧ V.cell? ⟨bd, od + m, none⟩ = some (.int .i64 i0))) => hkeep V (set4W V (w.heap.size + 1) p q r u) (set4_below (Below.refl _ _) (by simp) p q r u) h)
  have hS0A : (Below (w.alloc (.cells #[.int .i64 0, .int .i64 0, .slice none 0 0, .slice none 0 0] 36)).heap.size (w.alloc (.cells #[.int .i64 0, .int .i64 0, .slice none 0 0, .slice none 0 0] 36)) ((w.alloc (.cells #[.int .i64 0, .int .i64 0, .slice none 0 0, .slice none 0 0] 36)).alloc (.cells #[.int .i64 0, .int .i64 0, .slice none 0 0, .slice none 0 0] 36)).drew ∧ ((w.alloc (.cells #[.int .i64 0, .int .i64 0, .slice none 0 0, .slice none 0 0] 36)).alloc (.cells #[.int .i64 0, .int .i64 0, .slice none 0 0, .slice none 0 0] 36)).drew.cell? ⟨b1, o1, none⟩ = some (.int .i64 9) ∧ ((w.alloc (.cells #[.int .i64 0, .int .i64 0, .slice none 0 0, .slice none 0 0] 36)).alloc (.cells #[.int .i64 0, .int .i64 0, .slice none 0 0, .slice none 0 0] 36)).drew.cell? ⟨b1, o1 + 2, none⟩ = some (.slice (some ⟨bd, od, none⟩) ds1.length cds1) ∧ ((w.alloc (.cells #[.int .i64 0, .int .i64 0, .slice none 0 0, .slice none 0 0] 36)).alloc (.cells #[.int .i64 0, .int .i64 0, .slice none 0 0, .slice none 0 0] 36)).drew.cell? ⟨b1, o1 + 3, none⟩ = some (.slice (some ⟨bq, oq, none⟩) 1 cks1) ∧ ((w.alloc (.cells #[.int .i64 0, .int .i64 0, .slice none 0 0, .slice none 0 0] 36)).alloc (.cells #[.int .i64 0, .int .i64 0, .slice none 0 0, .slice none 0 0] 36)).drew.cell? ⟨bq, oq + 1, none⟩ = some (.int .i64 (m : Int)) ∧ ((w.alloc (.cells #[.int .i64 0, .int .i64 0, .slice none 0 0, .slice none 0 0] 36)).alloc (.cells #[.int .i64 0, .int .i64 0, .slice none 0 0, .slice none 0 0] 36)).drew.cell? ⟨bd, od + m, none⟩ = some (.int .i64 i0)) := KAL.out _ _ hS0
  have HA1 := hid (show ((w.alloc (.cells #[.int .i64 0, .int .i64 0, .slice none 0 0, .slice none 0 0] 36)).alloc (.cells #[.int .i64 0, .int .i64 0, .slice none 0 0, .slice none 0 0] 36)).drew.heap[w.heap.size + 1]? = some (.cells #[.int .i64 0, .int .i64 0, .slice none 0 0, .slice none 0 0] 36) from (by have h := heap_alloc_new (w.alloc (.cells #[.int .i64 0, .int .i64 0, .slice none 0 0, .slice none 0 0] 36)) (.cells #[.int .i64 0, .int .i64 0, .slice none 0 0, .slice none 0 0] 36); rw [World.size_alloc] at h; exact h))
  clear hr hall hd x0 x1 x2 x3 hi0 hB1 l1 hf hkeep hfall
  go_enter Try.func67, Try.ntmps67
  go_wp2_with fail
  go_upto_region 5 with fail
  go_cut [5] from 34 (fun t5 wx => ∃ (g : Nat) (k v : Int) (a : Option Addr) (n c : Nat) (a' : Option Addr) (n' c' : Nat), t5 = .pointer (some ⟨g, 0, none⟩) ∧ Hid (w.heap.size + 1 ≤ g) ∧ Hid (Below (w.alloc (.cells #[.int .i64 0, .int .i64 0, .slice none 0 0, .slice none 0 0] 36)).heap.size (w.alloc (.cells #[.int .i64 0, .int .i64 0, .slice none 0 0, .slice none 0 0] 36)) wx) ∧ Hid (wx.heap[g]? = some (.cells #[.int .i64 k, .int .i64 v, .slice a n c, .slice a' n' c'] 36)))
  case first =>
    go_region_held3 (fun V => (Below (w.alloc (.cells #[.int .i64 0, .int .i64 0, .slice none 0 0, .slice none 0 0] 36)).heap.size (w.alloc (.cells #[.int .i64 0, .int .i64 0, .slice none 0 0, .slice none 0 0] 36)) V ∧ V.cell? ⟨b1, o1, none⟩ = some (.int .i64 9) ∧ V.cell? ⟨b1, o1 + 2, none⟩ = some (.slice (some ⟨bd, od, none⟩) ds1.length cds1) ∧ V.cell? ⟨b1, o1 + 3, none⟩ = some (.slice (some ⟨bq, oq, none⟩) 1 cks1) ∧ V.cell? ⟨bq, oq + 1, none⟩ = some (.int .i64 (m : Int)) ∧ V.cell? ⟨bd, od + m, none⟩ = some (.int .i64 i0)))
      (with_reducible first | exact hS0 | exact hS0A | exact hS1 | exact KAL.out _ _ hS0 | exact KAL.out _ _ hS1 | exact KST4.out _ _ _ _ _ hS1)
      (first
        | (go_at_call 85; (with_reducible refine (spec_R i0 (((w.alloc (.cells #[.int .i64 0, .int .i64 0, .slice none 0 0, .slice none 0 0] 36)).alloc (.cells #[.int .i64 0, .int .i64 0, .slice none 0 0, .slice none 0 0] 36)).drew)).mono ?_); rintro e V1 ⟨rfl, hbw⟩; have hS1 := KEEP.out _ _ (hbw.mono (B' := (w.alloc (.cells #[.int .i64 0, .int .i64 0, .slice none 0 0, .slice none 0 0] 36)).heap.size) (by simp)) hS0A; have hx := (hbw.block (w.heap.size + 1) (by simp)).trans HA1.out; have z0 := heap_free hx 0; have z1 := heap_free hx 1; have z2 := heap_free hx 2; have z3 := heap_free hx 3; have r0 := heap_cell hx (j := 0) rfl; have r1 := heap_cell hx (j := 1) rfl; have r2 := heap_cell hx (j := 2) rfl; have r3 := heap_cell hx (j := 3) rfl)
        | (go_at_call 85; (with_reducible refine (spec_R i0 ((w.alloc (.cells #[.int .i64 0, .int .i64 0, .slice none 0 0, .slice none 0 0] 36)).drew)).mono ?_); rintro e V1 ⟨rfl, hbw⟩; have hS1 := KEEP.out _ _ (hbw.mono (B' := (w.alloc (.cells #[.int .i64 0, .int .i64 0, .slice none 0 0, .slice none 0 0] 36)).heap.size) (by simp)) hS0))
    all_goals
      clear KEEP KAL KST4
      go_wp2_with fail
      go_meet
      first
        | (have hq := hx
           exact ⟨w.heap.size + 1, _, _, _, _, _, _, _, _, rfl, hid (Nat.le_refl _), hid (set4_below hS1.1 (by simp) _ _ _ _), hid (set4 hq _ _ _ _)⟩)
        | exact ⟨_, _, _, _, _, _, _, _, _, rfl, hid (by have := hS1.1.size; simp at this; omega), hid (hS1.1.alloc hS1.1.size _), hid (heap_alloc_new _ _)⟩
  case rest =>
    obtain ⟨wa, hwa⟩ : ∃ wa, wa = wc := ⟨_, rfl⟩
    subst hwa
    obtain ⟨g, kk, vv, aa, nn, cc, a', n', c', rfl, HG, HBA, HX⟩ := hcut
    clear KEEP KAL KST4 hS0 hS0A y0 y2 y3 q0 q1 q2 q3 e0 HA1
    have HN2 := hid ((HBA.out.block w.heap.size (by simp)).trans HN1.out)
    have HB2 := hid (HB1.out.trans (HBA.out.mono (by simp)))
    go_wp2_with fail
    go_loopw [6] (fun i wr => ∃ (j : Nat) (k v : Int) (a : Option Addr) (n c : Nat) (a' : Option Addr) (n' c' : Nat), j ≤ fs.length ∧ i = .int .i64 j ∧ Hid (wr.heap[g]? = some (.cells #[.int .i64 k, .int .i64 v, .slice a n c, .slice a' n' c'] 36)) ∧ Hid (wr.heap[w.heap.size]? = some (.cells #[.int .i64 0, .int .i64 0, .slice none 0 0, .slice none 0 0] 36)) ∧ Hid (Below w.heap.size w wr)) (fun i _ => fs.length - (intOf i).toNat)
    case atStart => exact ⟨0, _, _, _, _, _, _, _, _, by omega, rfl, HX, HN2, HB2⟩
    case round =>
      obtain ⟨j, k, v, a, n, c, a', n', c', hj, rfl, HX, HN, HB⟩ := hrel
      have f0 := heap_cell HX.out (j := 0) rfl
      have f1 := heap_cell HX.out (j := 1) rfl
      have f2 := heap_cell HX.out (j := 2) rfl
      have f3 := heap_cell HX.out (j := 3) rfl
      by_cases hlt : j < fs.length
      case neg =>
        have z0 := heap_free HN.out 0
        have r0 := heap_cell HN.out (j := 0) rfl
        have z1 := heap_free HN.out 1
        have r1 := heap_cell HN.out (j := 1) rfl
        have z2 := heap_free HN.out 2
        have r2 := heap_cell HN.out (j := 2) rfl
        have z3 := heap_free HN.out 3
        have r3 := heap_cell HN.out (j := 3) rfl
        go_wp2_with fail
        have hS := set4 HN.out (.int .i64 k) (.int .i64 v) (.slice a n c) (.slice a' n' c')
        have hc0 := heap_cell hS (j := 0) rfl
        have hc1 := heap_cell hS (j := 1) rfl
        have hc2 := heap_cell hS (j := 2) rfl
        have hc3 := heap_cell hS (j := 3) rfl
        refine bodyPost_ret (v := .agg #[.int .i64 k, .int .i64 v, .slice a n c, .slice a' n' c']) (by simp [results, Try.results67, go_sem, hc0, hc1, hc2, hc3]) rfl ?_
        exact ⟨_, _, _, _, _, _, _, _, rfl, set4_below HB.out (Nat.le_refl _) _ _ _ _⟩
      case pos =>
        obtain ⟨b, o, rfl, hbl, hfall⟩ := HFA.out (by omega)
        obtain ⟨t, ht⟩ : ∃ t, fs[j]? = some t := ⟨_, List.getElem?_eq_getElem hlt⟩
        obtain ⟨k5, v5, ds5, ks5⟩ := t
        obtain ⟨ad5, cd5, ak5, ck5, u0, u1, u2, u3, _⟩ := (hfall j _ ht).below HB.out
        have HA := hid (fun (W : World) => spec_A k v a n c a' n' c' k5 v5 ad5 ds5.length cd5 ak5 ks5.length ck5 W)
        have i1 : (0 : Int) ≤ (j : Int) := Int.natCast_nonneg _
        have i2 : (j : Int) < (fs.length : Int) := by omega
        have hgl := (Array.getElem?_eq_some_iff.1 HX.out).1
        have hwl := (Array.getElem?_eq_some_iff.1 HN.out).1
        have HDR := hid (Below.refl wr.heap.size wr).drew
        clear hfall ht
        go_wp2_with fail
        go_region_law (first
          | (go_simp; go_at_call 86; (with_reducible refine (HA.out _).mono ?_); rintro e W2 ⟨k6, v6, a6, n6, c6, a7, n7, c7, rfl, hb6⟩; have HB6 := hid (HDR.out.trans hb6); have hx6 := (HB6.out.block g hgl).trans HX.out; have HX6 := hid hx6; have z0 := heap_free hx6 0; have z1 := heap_free hx6 1; have z2 := heap_free hx6 2; have z3 := heap_free hx6 3; have r0 := heap_cell hx6 (j := 0) rfl; have r1 := heap_cell hx6 (j := 1) rfl; have r2 := heap_cell hx6 (j := 2) rfl; have r3 := heap_cell hx6 (j := 3) rfl))
        all_goals
          have HN6 := hid ((HB6.out.block _ hwl).trans HN.out)
          have HBW := hid (HB.out.trans (HB6.out.mono HB.out.size))
          clear HA f0 f1 f2 f3 u0 u1 u2 u3 HFA
          go_wp2_with fail
          go_roundw
          case rel => exact ⟨j + 1, k6, v6, a6, n6, c6, a7, n7, c7, by omega, by go_num, hid (set4 HX6.out _ _ _ _), hid ((set4_ne _ _ _ _ (by have := HG.out; omega)).trans HN6.out), hid (set4_below HBW.out (by have := HG.out; omega) _ _ _ _)⟩
          case measure => simp [intOf]; omega
theorem spec_chosen (k1 v1 : Int) (ds1 : List Int) (ks1 : List Co) (fs : List Co) (vf : Value) (b1 o1 : Nat) (w : World) (hz : redx k1 ds1.length ks1 = 3) (hg : Co.good (Co.mk k1 v1 ds1 ks1) = true) (hat : AtC w b1 o1 (Co.mk k1 v1 ds1 ks1)) (hf : RdL w (Co.ds fs) vf) :
    Calls Try.prog 67 #[.pointer (some ⟨b1, o1, none⟩), vf] w (GivesW w) := by
  rcases redx_three hz with ⟨rfl, v0, d0, q0, r, rfl, hv⟩ | ⟨rfl, v0, d0, q0, r, rfl⟩
  · obtain ⟨x, hx, hgx⟩ := good_one hg (by omega)
    simp only [List.cons.injEq] at hx
    obtain ⟨rfl, rfl⟩ := hx
    exact chosen_nine v1 ds1 v0 d0 q0 fs vf b1 o1 w (good_val hgx (by omega)) hv hat hf
  · obtain ⟨x, hx, hgx⟩ := good_one hg (by omega)
    simp only [List.cons.injEq] at hx
    obtain ⟨rfl, rfl⟩ := hx
    exact chosen_ten v1 ds1 v0 d0 q0 vf b1 o1 w (good_sw hg) hat
end Go.Proofs.Ytejdbmeoaekhcaa
