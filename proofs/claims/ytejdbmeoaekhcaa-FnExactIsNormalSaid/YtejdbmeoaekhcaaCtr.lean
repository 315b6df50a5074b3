/- Walks: short forms and choices, in the reference: that they return. No condition. -/
import Derived.Test.YtejdbmeoaekhcaaAtC
import Derived.Test.YtejdbmeoaekhcaaNorP
import Derived.Deep.RegionHeld3
import Derived.Deep.CutRange
import Derived.Deep.RegionLaw
namespace Go.Proofs.Ytejdbmeoaekhcaa
open Go.ChangeShapes Go.WideShapes Go.ChangeAt Go.RowKit
open Go.Sort (grow)
set_option linter.unusedVariables false

theorem spec_R (d : Int) (w : World) : Calls Try.prog 85 #[.int .i64 d] w fun e w' => e = .returned (.agg #[.int .i64 11, .int .i64 d, .slice none 0 0, .slice none 0 0]) ∧ Below w.heap.size w w' := by
  go_enter Try.func85, Try.ntmps85
  go_wp2_with fail
  refine bodyPost_ret (v := .agg #[.int .i64 11, .int .i64 d, .slice none 0 0, .slice none 0 0]) (by simp [results, Try.results85, go_sem]) rfl ?_
  exact ⟨rfl, by repeat (first | exact Below.refl _ _ | (refine Below.setCell ?_ (by simp; try omega) _) | (refine Below.alloc ?_ (by simp; try omega) _))⟩
theorem spec_N (d : Int) (w : World) : Calls Try.prog 65 #[.int .i64 d] w fun e w' => e = .returned (.agg #[.int .i64 2, .int .i64 d, .slice none 0 0, .slice none 0 0]) ∧ Below w.heap.size w w' := by
  go_enter Try.func65, Try.ntmps65
  go_wp2_with fail
  refine bodyPost_ret (v := .agg #[.int .i64 2, .int .i64 d, .slice none 0 0, .slice none 0 0]) (by simp [results, Try.results65, go_sem]) rfl ?_
  exact ⟨rfl, by repeat (first | exact Below.refl _ _ | (refine Below.setCell ?_ (by simp; try omega) _) | (refine Below.alloc ?_ (by simp; try omega) _))⟩
theorem spec_C (k v : Int) (a : Option Addr) (n c : Nat) (w : World) : Calls Try.prog 98 #[.int .i64 k, .int .i64 v, .slice a n c] w fun e w' => e = .returned (.agg #[.int .i64 k, .int .i64 v, .slice none 0 0, .slice a n c]) ∧ Below w.heap.size w w' := by
  go_enter Try.func98, Try.ntmps98
  go_wp2_with fail
  refine bodyPost_ret (v := .agg #[.int .i64 k, .int .i64 v, .slice none 0 0, .slice a n c]) (by simp [results, Try.results98, go_sem]) rfl ?_
  exact ⟨rfl, by repeat (first | exact Below.refl _ _ | (refine Below.setCell ?_ (by simp; try omega) _) | (refine Below.alloc ?_ (by simp; try omega) _))⟩
set_option maxRecDepth 100000 in
set_option maxHeartbeats 1000000 in
theorem spec_A (k3 v3 : Int) (a3 : Option Addr) (n3 c3 : Nat) (p3 : Option Addr) (m3 d3 : Nat) (k4 v4 : Int) (a4 : Option Addr) (n4 c4 : Nat) (p4 : Option Addr) (m4 d4 : Nat) (w : World) : Calls Try.prog 86 #[.agg #[.int .i64 k3, .int .i64 v3, .slice a3 n3 c3, .slice p3 m3 d3], .agg #[.int .i64 k4, .int .i64 v4, .slice a4 n4 c4, .slice p4 m4 d4]] w (GivesW w) := by
  obtain ⟨W0, hW0⟩ : ∃ W0, W0 = (((w.alloc (.cells #[.int .i64 k3, .int .i64 v3, .slice a3 n3 c3, .slice p3 m3 d3] 36)).alloc (.cells #[.int .i64 k4, .int .i64 v4, .slice a4 n4 c4, .slice p4 m4 d4] 36)).alloc (.cells #[.int .i64 0, .int .i64 0, .slice none 0 0, .slice none 0 0] 36)).alloc (.cells #[.int .i64 k3, .int .i64 v3, .slice a3 n3 c3, .slice p3 m3 d3, .int .i64 k4, .int .i64 v4, .slice a4 n4 c4, .slice p4 m4 d4] 36) := ⟨_, rfl⟩
  have HN0 := hid (show W0.heap[w.heap.size + 2]? = some (.cells #[.int .i64 0, .int .i64 0, .slice none 0 0, .slice none 0 0] 36) by
    rw [hW0, Below.heap_alloc _ _ _ (by simp)]
    have h := heap_alloc_new ((w.alloc (.cells #[.int .i64 k3, .int .i64 v3, .slice a3 n3 c3, .slice p3 m3 d3] 36)).alloc (.cells #[.int .i64 k4, .int .i64 v4, .slice a4 n4 c4, .slice p4 m4 d4] 36)) (.cells #[.int .i64 0, .int .i64 0, .slice none 0 0, .slice none 0 0] 36)
    rw [World.size_alloc, World.size_alloc] at h; exact h)
  have HB0 := hid (show Below w.heap.size w W0 by rw [hW0]; exact ((((Below.refl _ _).alloc (Nat.le_refl _) _).alloc (by simp) _).alloc (by simp; omega) _).alloc (by simp; omega) _)
  have HC := hid (spec_C 5 0 (some ⟨w.heap.size + 1 + 1 + 1, 0, none⟩) 2 2 W0)
  rw [hW0] at HN0 HB0 HC
  go_enter Try.func86, Try.ntmps86
  go_wp2_with fail
  refine HC.out.mono ?_
  rintro e w2 ⟨rfl, hb⟩
  have HN2 := hid ((hb.block (w.heap.size + 2) (by simp)).trans HN0.out)
  have HB2 := hid (HB0.out.trans (hb.mono (by simp; omega)))
  clear hb hW0 W0
  have z0 := heap_free HN2.out 0
  have r0 := heap_cell HN2.out (j := 0) rfl
  have z1 := heap_free HN2.out 1
  have r1 := heap_cell HN2.out (j := 1) rfl
  have z2 := heap_free HN2.out 2
  have r2 := heap_cell HN2.out (j := 2) rfl
  have z3 := heap_free HN2.out 3
  have r3 := heap_cell HN2.out (j := 3) rfl
  go_wp2_with fail
  have hS := set4 HN2.out (.int .i64 5) (.int .i64 0) (.slice none 0 0) (.slice (some ⟨w.heap.size + 1 + 1 + 1, 0, none⟩) 2 2)
  have hc0 := heap_cell hS (j := 0) rfl
  have hc1 := heap_cell hS (j := 1) rfl
  have hc2 := heap_cell hS (j := 2) rfl
  have hc3 := heap_cell hS (j := 3) rfl
  refine bodyPost_ret (v := .agg #[.int .i64 5, .int .i64 0, .slice none 0 0, .slice (some ⟨w.heap.size + 1 + 1 + 1, 0, none⟩) 2 2]) (by simp [results, Try.results86, go_sem, hc0, hc1, hc2, hc3]) rfl ?_
  exact ⟨_, _, _, _, _, _, _, _, rfl, set4_below HB2.out (by omega) _ _ _ _⟩
end Go.Proofs.Ytejdbmeoaekhcaa
