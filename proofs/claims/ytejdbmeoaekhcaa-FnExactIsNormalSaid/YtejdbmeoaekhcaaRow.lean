/- A list of structs that a call makes by append: what it owns, how it reads. Over whatever program. No condition. -/
import Derived.Test.YtejdbmeoaekhcaaSc
import Derived.Test.YtejdbmeoaekhcaaKeep
import Derived.Deep.AppendLies
namespace Go.Proofs.Ytejdbmeoaekhcaa
open Go.ChangeShapes Go.WideShapes Go.ChangeAt Go.RowKit
set_option linter.unusedVariables false

theorem OwnS.keep {w w' : World} {base : Nat} {d : D} {cs : List Value} (h : OwnS w base d cs) (hb : ∀ x, base ≤ x → x < w.heap.size → w'.heap[x]? = w.heap[x]?) : OwnS w' base d cs := by
  obtain ⟨F, h1, h2⟩ := h
  exact ⟨F, h1.keep fun x hx => hb x (h2.2 x hx).1 (h1.lt x hx), h2.keep fun x hx => hb x (h2.2 x hx).1 (h1.lt x hx)⟩
/-- The list as it is now: its row, each element's cells, and what they own. -/
def RowNow (te : TypeId) (m : Nat) (B : Nat) (ds : List D) (v : Value) (w : World) : Prop := ∃ xs F, w.ownsRow B te m v ds.length xs ∧ RdAll w ds xs F ∧ Owned w B F ∧ ∀ g, v.ownBlock = some g → g ∉ F
theorem RowNow.nil (te : TypeId) (m : Nat) (B : Nat) (w : World) : RowNow te m B [] (.slice none 0 0) w := ⟨[], [], World.ownsRow_nil _ _ _ _, RdAll.nil, Owned.nil _ _, fun _ _ h => by simp at h⟩
theorem RowNow.keep {te : TypeId} {m B : Nat} {ds : List D} {v : Value} {w w' : World} (h : RowNow te m B ds v w) (hk : ∀ x, B ≤ x → x < w.heap.size → w'.heap[x]? = w.heap[x]?) : RowNow te m B ds v w' := by
  obtain ⟨xs, F, h1, h2, h3, h4⟩ := h
  refine ⟨xs, F, ⟨h1.1, ?_⟩, h2.keep fun x hx => hk x (h3.2 x hx).1 (h2.lt x hx), h3.keep fun x hx => hk x (h3.2 x hx).1 (h2.lt x hx), h4⟩
  rcases h1.2 with hn | ⟨g, cap, cur, rfl, hB, hg, rest⟩
  · exact .inl hn
  · exact .inr ⟨g, cap, cur, rfl, hB, by rw [hk g hB (Array.getElem?_eq_some_iff.1 hg).1]; exact hg, rest⟩
theorem RowNow.below {te : TypeId} {m B : Nat} {ds : List D} {v : Value} {w w' : World} (h : RowNow te m B ds v w) (hb : Below w.heap.size w w') : RowNow te m B ds v w' := h.keep fun x _ hx => hb.block x hx
theorem RowNow.push {te : TypeId} {m B : Nat} {ds : List D} {d : D} {v v' : Value} {w w1 w3 : World} {xs cs : List Value} {F : List Nat} (ho : w.ownsRow B te m v ds.length xs) (hr : RdAll w ds xs F) (hw : Owned w B F) (hn : ∀ g, v.ownBlock = some g → g ∉ F) (hB : B ≤ w.heap.size)
    (hb : Below w.heap.size w w1) (hd : OwnS w1 w.heap.size d cs) (hg : w1.grownBy w3 v.ownBlock) (ho3 : w3.ownsRow B te m v' (ds.length + 1) (xs ++ cs)) (hf : ∀ g, v'.ownBlock = some g → v.ownBlock = some g ∨ w1.heap.size ≤ g) : RowNow te m B (ds ++ [d]) v' w3 := by
  obtain ⟨F2, r2, o2⟩ := hd
  have hF : ∀ x ∈ F, x < w.heap.size := hr.lt
  have hF2 : ∀ x ∈ F2, w.heap.size ≤ x ∧ x < w1.heap.size := fun x hx => ⟨(o2.2 x hx).1, r2.lt x hx⟩
  have hv : ∀ g, v.ownBlock = some g → g < w.heap.size := fun g hg => (ho.lt g hg).2
  have k1 : ∀ x ∈ F, w3.heap[x]? = w.heap[x]? := fun x hx => (hg.block x (Nat.lt_of_lt_of_le (hF x hx) hb.size) fun e => hn x e.symm hx).trans (hb.block x (hF x hx))
  have k2 : ∀ x ∈ F2, w3.heap[x]? = w1.heap[x]? := fun x hx => hg.block x (hF2 x hx).2 fun e => by have := hv x e.symm; have := (hF2 x hx).1; omega
  refine ⟨xs ++ cs, F ++ F2, by simpa using ho3, (hr.keep k1).append (RdAll.one (r2.keep k2)), ⟨List.nodup_append.2 ⟨hw.1, o2.1, fun a ha b hb e => by subst e; have := hF a ha; have := (hF2 a hb).1; omega⟩, fun x hx => ?_⟩, fun g hg' hx => ?_⟩
  · rcases List.mem_append.1 hx with hx | hx
    · exact ⟨(hw.2 x hx).1, by rw [k1 x hx]; exact (hw.2 x hx).2⟩
    · exact ⟨Nat.le_trans hB (hF2 x hx).1, by rw [k2 x hx]; exact (o2.2 x hx).2⟩
  · rcases hf g hg' with e | e
    · rcases List.mem_append.1 hx with hx | hx
      · exact hn g e hx
      · have := hv g e; have := (hF2 g hx).1; omega
    · rcases List.mem_append.1 hx with hx | hx
      · have := hF g hx; have := hb.size; omega
      · have := (hF2 g hx).2; omega
theorem RowNow.own {te : TypeId} {m B : Nat} {ds : List D} {v : Value} {w : World} (h : RowNow te m B ds v w) : OwnL w B ds v := by
  obtain ⟨xs, F, h1, h2, h3, h4⟩ := h
  obtain ⟨F', k1, k2⟩ := Rd.of_own h1 rfl h2 h3 h4
  exact ⟨F', k1, k2⟩
theorem RowNow.slice {te : TypeId} {m B : Nat} {ds : List D} {v : Value} {w : World} (h : RowNow te m B ds v w) : ∃ a c, v = .slice a ds.length c := by
  obtain ⟨xs, F, h1, -⟩ := h
  rcases h1.2 with ⟨rfl, hn⟩ | ⟨g, cap, cur, rfl, _⟩
  · exact ⟨none, 0, by rw [hn]⟩
  · exact ⟨_, cap, rfl⟩
theorem heap_free {w : World} {b : Nat} {c : Array Value} {T : TypeId} (h : w.heap[b]? = some (.cells c T (0, 0))) (q : Nat) : w.frozen? ⟨b, q, none⟩ = false := by simp [World.frozen?, h]
theorem alloc3 (w : World) (a b c : Obj) : (((w.alloc a).alloc b).alloc c).heap[w.heap.size]? = some a ∧ (((w.alloc a).alloc b).alloc c).heap[w.heap.size + 1]? = some b ∧ (((w.alloc a).alloc b).alloc c).heap[w.heap.size + 2]? = some c ∧ Below w.heap.size w (((w.alloc a).alloc b).alloc c) ∧ w.heap.size + 3 ≤ (((w.alloc a).alloc b).alloc c).heap.size := by
  have h1 := heap_alloc_new w a
  have h2 := heap_alloc_new (w.alloc a) b
  have h3 := heap_alloc_new ((w.alloc a).alloc b) c
  simp only [World.size_alloc] at h2 h3
  refine ⟨?_, ?_, h3, (((Below.refl _ _).alloc (Nat.le_refl _) _).alloc (by simp) _).alloc (by simp; omega) _, by simp⟩
  · rw [Below.heap_alloc _ _ _ (by simp; omega), Below.heap_alloc _ _ _ (by simp)]; exact h1
  · rw [Below.heap_alloc _ _ _ (by simp)]; exact h2
theorem heap_set_ne0 {w : World} {b q x : Nat} (v : Value) (h : x ≠ b) : (w.setCell ⟨b, q, none⟩ v).heap[x]? = w.heap[x]? := Below.heap_setCell w ⟨b, q, none⟩ v x h
/-- A round of the loop that makes the list: one element more, its header stored. -/
theorem row_round {te : TypeId} {m n c g q : Nat} {w wr W2 W3 : World} {ds : List D} {d : D} {v0 u : Value} {xs cs : List Value} {F : List Nat} {o : Obj} (hB : Below w.heap.size w wr) (hZ : w.heap.size + 3 ≤ wr.heap.size) (hl : ds.length = n) (ho : wr.ownsRow (w.heap.size + 3) te m v0 n xs) (hr : RdAll wr ds xs F) (hw : Owned wr (w.heap.size + 3) F)
    (hn : ∀ g, v0.ownBlock = some g → g ∉ F) (h5 : Below wr.heap.size wr W2) (hd : OwnS W2 wr.heap.size d cs) (hg : (W2.alloc o).grownBy W3 v0.ownBlock) (ho3 : W3.ownsRow (w.heap.size + 3) te m (.slice (some ⟨g, 0, none⟩) (n + 1) c) (n + 1) (xs ++ cs)) (hat : v0.ownBlock = some g ∨ g = W2.heap.size + 1) :
    (∀ x, x < w.heap.size + 2 → (W3.setCell ⟨w.heap.size + 2, q, none⟩ u).heap[x]? = wr.heap[x]?) ∧ Below w.heap.size w (W3.setCell ⟨w.heap.size + 2, q, none⟩ u) ∧ w.heap.size + 3 ≤ (W3.setCell ⟨w.heap.size + 2, q, none⟩ u).heap.size ∧ RowNow te m (w.heap.size + 3) (ds ++ [d]) (.slice (some ⟨g, 0, none⟩) (n + 1) c) (W3.setCell ⟨w.heap.size + 2, q, none⟩ u) := by
  subst hl
  have hal : Below W2.heap.size W2 (W2.alloc o) := (Below.refl _ _).alloc (Nat.le_refl _) _
  have h6 : Below wr.heap.size wr (W2.alloc o) := h5.trans (hal.mono h5.size)
  have hv : ∀ k, v0.ownBlock = some k → w.heap.size + 3 ≤ k := fun k hk => (ho.lt k hk).1
  have hk3 : ∀ x, x < w.heap.size + 3 → W3.heap[x]? = wr.heap[x]? := fun x hx => (hg.block x (by have := h6.size; omega) fun e => by have := hv x e.symm; omega).trans (h6.block x (by omega))
  have hrow := RowNow.push (v' := .slice (some ⟨g, 0, none⟩) (ds.length + 1) c) ho hr hw hn hZ h6 (hd.below hal) hg ho3 fun g' hg' => by
    simp only [Value.ownBlock, Option.some.injEq] at hg'
    subst hg'
    rcases hat with e | e
    · exact .inl e
    · exact .inr (by rw [e]; simp)
  have hb3 : Below w.heap.size w W3 := (hB.trans (h6.mono hB.size)).grown hg (by have := h6.size; omega) fun k hk => by have := hv k hk; omega
  have hs3 : w.heap.size + 3 ≤ W3.heap.size := by have := h6.size; have := hg.size; omega
  refine ⟨fun x hx => (heap_set_ne0 u (by omega)).trans (hk3 x (by omega)), hb3.setCell (by simp) _, by simp [World.setCell]; omega, hrow.keep fun x hx _ => heap_set_ne0 u (by omega)⟩
theorem set3 {w : World} {b : Nat} {T : TypeId} {x y z : Value} (h : w.heap[b]? = some (.cells #[x, y, z] T (0, 0))) (p q r : Value) : (((w.setCell ⟨b, 0, none⟩ p).setCell ⟨b, 1, none⟩ q).setCell ⟨b, 2, none⟩ r).heap[b]? = some (.cells #[p, q, r] T (0, 0)) :=
  heap_setCell_at _ b 2 r (heap_setCell_at _ b 1 q (heap_setCell_at w b 0 p h))
theorem set3_ne {w : World} {b x : Nat} (p q r : Value) (h : x ≠ b) : (((w.setCell ⟨b, 0, none⟩ p).setCell ⟨b, 1, none⟩ q).setCell ⟨b, 2, none⟩ r).heap[x]? = w.heap[x]? :=
  (heap_set_ne0 r h).trans ((heap_set_ne0 q h).trans (heap_set_ne0 p h))
theorem alloc2 (w : World) (a b : Obj) : ((w.alloc a).alloc b).heap[w.heap.size]? = some a ∧ ((w.alloc a).alloc b).heap[w.heap.size + 1]? = some b ∧ ((w.alloc a).alloc b).heap.size = w.heap.size + 2 ∧ Below w.heap.size w ((w.alloc a).alloc b) := by
  have h1 := heap_alloc_new w a
  have h2 := heap_alloc_new (w.alloc a) b
  simp only [World.size_alloc] at h2
  refine ⟨?_, h2, by simp, ((Below.refl _ _).alloc (Nat.le_refl _) _).alloc (by simp) _⟩
  rw [Below.heap_alloc _ _ _ (by simp)]; exact h1
theorem heap_set_ne {w : World} {b q x : Nat} (v : Value) (h : x ≠ b) : (w.setCell ⟨b, q, none⟩ v).heap[x]? = w.heap[x]? := Below.heap_setCell w ⟨b, q, none⟩ v x h
end Go.Proofs.Ytejdbmeoaekhcaa
