/- A list of cores appended whole to an empty one of the call's own: what lies where. No condition. -/
import Derived.Test.YtejdbmeoaekhcaaAtC
namespace Go.Proofs.Ytejdbmeoaekhcaa
open Go.ChangeShapes Go.WideShapes Go.ChangeAt Go.RowKit
open Go.Sort (grow)
set_option linter.unusedVariables false

theorem kid_cells {w : World} {ks : List Co} {b o : Nat} (hall : ∀ (i : Nat) (t : Co), ks[i]? = some t → AtC w b (o + i * 4) t) : ∃ news : List Value, news.length = ks.length * 4 ∧ (∀ (j : Nat) (u : Value), news[j]? = some u → w.cell? ⟨b, o + j, none⟩ = some u) ∧ ∀ u ∈ news, u.oneCell' = true := by
  have H : ∀ j, j < ks.length * 4 → ∃ u, w.cell? ⟨b, o + j, none⟩ = some u ∧ u.oneCell' = true := by
    intro j hj
    obtain ⟨t, ht⟩ : ∃ t, ks[j / 4]? = some t := ⟨_, List.getElem?_eq_getElem (by omega)⟩
    obtain ⟨k, v, ds, ks'⟩ := t
    obtain ⟨ad, cd, ak, ck, q0, q1, q2, q3, _⟩ := hall (j / 4) _ ht
    have h4 : j % 4 = 0 ∨ j % 4 = 1 ∨ j % 4 = 2 ∨ j % 4 = 3 := by omega
    rcases h4 with h | h | h | h
    · exact ⟨_, by rw [show o + j = o + j / 4 * 4 by omega]; exact q0, by simp [Value.oneCell']⟩
    · exact ⟨_, by rw [show o + j = o + j / 4 * 4 + 1 by omega]; exact q1, by simp [Value.oneCell']⟩
    · exact ⟨_, by rw [show o + j = o + j / 4 * 4 + 2 by omega]; exact q2, by simp [Value.oneCell']⟩
    · exact ⟨_, by rw [show o + j = o + j / 4 * 4 + 3 by omega]; exact q3, by simp [Value.oneCell']⟩
  refine ⟨List.ofFn fun j : Fin (ks.length * 4) => Classical.choose (H j.1 j.2), by simp, fun j u hj => ?_, fun u hu => ?_⟩
  · obtain ⟨hlt, rfl⟩ := List.getElem?_eq_some_iff.1 hj
    simp only [List.length_ofFn] at hlt
    simp only [List.getElem_ofFn]
    exact (Classical.choose_spec (H j hlt)).1
  · obtain ⟨j, hj⟩ := List.mem_iff_getElem?.1 hu
    obtain ⟨hlt, rfl⟩ := List.getElem?_eq_some_iff.1 hj
    simp only [List.length_ofFn] at hlt
    simp only [List.getElem_ofFn]
    exact (Classical.choose_spec (H j hlt)).2
theorem row_cells {W : World} {B m cap gq : Nat} {T : TypeId} {xs : List Value} (ho : W.ownsRow B T 4 (.slice (some ⟨gq, 0, none⟩) m cap) m xs) (hm : 0 < m) : B ≤ gq ∧ gq < W.heap.size ∧ ∃ cur, W.heap[gq]? = some (.cells cur T (0, 0)) ∧ m * 4 ≤ cur.size := by
  rcases ho.2 with ⟨h, _⟩ | ⟨g, c, cur, h, hB, hg, hn, _, hs, _⟩
  · simp at h
  · simp only [Value.slice.injEq, Option.some.injEq, Addr.mk.injEq, and_true, true_and] at h
    obtain ⟨rfl, rfl⟩ := h
    exact ⟨hB, (Array.getElem?_eq_some_iff.1 hg).1, cur, hg, by rw [hs]; exact Nat.mul_le_mul_right 4 hn⟩
theorem app_before {wb V W3 : World} {g EB gq m cap : Nat} {T : TypeId} {xs : List Value} {c0 c1 c2 c3 p q r u : Value} (hm : 0 < m) (hV : Below wb.heap.size wb V) (hg : wb.heap.size ≤ g) (hx : V.heap[g]? = some (.cells #[c0, c1, c2, c3] T (0, 0))) (hE : wb.heap.size ≤ EB) (hne : g ≠ EB) (hgr : V.grownBy W3 (some EB)) (ho : W3.ownsRow wb.heap.size T 4 (.slice (some ⟨gq, 0, none⟩) m cap) m xs) (hat : (some EB = some gq) ∨ gq = V.heap.size) :
    wb.heap.size ≤ g ∧ wb.heap.size ≤ gq ∧ g ≠ gq ∧ Below wb.heap.size wb (set4W W3 g p q r u) ∧ (set4W W3 g p q r u).heap[g]? = some (.cells #[p, q, r, u] T (0, 0)) ∧ ∃ cur, (set4W W3 g p q r u).heap[gq]? = some (.cells cur T (0, 0)) ∧ m * 4 ≤ cur.size := by
  have hlt := (Array.getElem?_eq_some_iff.1 hx).1
  have hx3 : W3.heap[g]? = some (.cells #[c0, c1, c2, c3] T (0, 0)) := (hgr.block g hlt (by simpa using hne)).trans hx
  have hb3 : Below wb.heap.size wb W3 := hV.grown hgr hV.size fun k hk => by simp only [Option.some.injEq] at hk; omega
  obtain ⟨h1, h2, cur, h3, h4⟩ := row_cells ho hm
  have hgq : g ≠ gq := by
    rcases hat with e | e
    · simp only [Option.some.injEq] at e; omega
    · omega
  exact ⟨hg, h1, hgq, set4_below hb3 hg p q r u, set4 hx3 p q r u, cur, (set4_ne p q r u (Ne.symm hgq)).trans h3, h4⟩
theorem app_after {wb V W3 : World} {EB gq m cap : Nat} {T : TypeId} {xs : List Value} {C : Array Value} (hm : 0 < m) (hV : Below wb.heap.size wb V) (hE : wb.heap.size ≤ EB) (hgr : V.grownBy W3 (some EB)) (ho : W3.ownsRow wb.heap.size T 4 (.slice (some ⟨gq, 0, none⟩) m cap) m xs) :
    wb.heap.size ≤ W3.heap.size ∧ wb.heap.size ≤ gq ∧ W3.heap.size ≠ gq ∧ Below wb.heap.size wb (W3.alloc (.cells C T (0, 0))) ∧ (W3.alloc (.cells C T (0, 0))).heap[W3.heap.size]? = some (.cells C T (0, 0)) ∧ ∃ cur, (W3.alloc (.cells C T (0, 0))).heap[gq]? = some (.cells cur T (0, 0)) ∧ m * 4 ≤ cur.size := by
  have hb3 : Below wb.heap.size wb W3 := hV.grown hgr hV.size fun k hk => by simp only [Option.some.injEq] at hk; omega
  obtain ⟨h1, h2, cur, h3, h4⟩ := row_cells ho hm
  exact ⟨hb3.size, h1, by omega, hb3.alloc hb3.size _, heap_alloc_new _ _, cur, (Below.heap_alloc _ _ _ h2).trans h3, h4⟩
theorem made_row (w : World) (B : Nat) (hB : B ≤ w.heap.size) (T : TypeId) : (w.alloc (.cells #[] T (0, 0))).ownsRow B T 4 (.slice (some ⟨w.heap.size, 0, none⟩) 0 0) 0 [] := World.ownsRow_made w #[] 0 hB (by simp [maxLen]) rfl
/-- A child put into the list. -/
theorem put_kid {W : World} {gq : Nat} {cur : Array Value} {T : TypeId} {m i : Nat} (h : W.heap[gq]? = some (.cells cur T (0, 0))) (hs : m * 4 ≤ cur.size) (hi : i < m) (r : Nat) (hr : r < 4) : ∃ u, W.cell? ⟨gq, i * 4 + r, none⟩ = some u := by
  have hj : i * 4 + r < cur.size := by omega
  exact ⟨cur[i * 4 + r], heap_cell h (Array.getElem?_eq_getElem hj)⟩
end Go.Proofs.Ytejdbmeoaekhcaa
