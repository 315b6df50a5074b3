/- A list of integers that a call makes by append: what it keeps, how it reads. Over whatever program. No condition. -/
import Derived.Test.YtejdbmeoaekhcaaSc
namespace Go.Proofs.Ytejdbmeoaekhcaa
open Go.RowKit

/-- Every block of another element type is as it was. -/
def KeepT (e : TypeId) (w w' : World) : Prop := ∀ (k : Nat) (c : Array Value) (T : TypeId) (fr : Nat × Nat), w.heap[k]? = some (.cells c T fr) → T ≠ e → w'.heap[k]? = some (.cells c T fr)
theorem KeepT.refl (e : TypeId) (w : World) : KeepT e w w := fun _ _ _ _ h _ => h
theorem KeepT.trans {e : TypeId} {a b c : World} (h : KeepT e a b) (k : KeepT e b c) : KeepT e a c := fun i x T fr hx hne => k i x T fr (h i x T fr hx hne) hne
theorem KeepT.of_below {e : TypeId} {w w' : World} (h : Below w.heap.size w w') : KeepT e w w' := fun k c T fr hk _ => by
  rw [h.block k (Array.getElem?_eq_some_iff.1 hk).1]; exact hk
theorem KeepT.of_grown {e : TypeId} {B s n : Nat} {v : Value} {xs : List Value} {w w' : World} (ho : w.ownsRow B e s v n xs) (hg : w.grownBy w' v.ownBlock) : KeepT e w w' := fun k c T fr hk hne => by
  have hlt := (Array.getElem?_eq_some_iff.1 hk).1
  by_cases hb : some k = v.ownBlock
  · exfalso
    rcases ho.2 with ⟨rfl, _⟩ | ⟨g, cap, cur, rfl, _, hg', _⟩
    · simp [Value.ownBlock] at hb
    · simp only [Value.ownBlock, Option.some.injEq] at hb
      subst hb
      rw [hg'] at hk
      simp only [Option.some.injEq, Obj.cells.injEq] at hk
      exact hne hk.2.1.symm
  · rw [hg.block k hlt hb]; exact hk
theorem KeepT.cell {e : TypeId} {w w' : World} (h : KeepT e w w') {k : Nat} {c : Array Value} {T : TypeId} {fr : Nat × Nat} (hk : w.heap[k]? = some (.cells c T fr)) (hne : T ≠ e) {j : Nat} {v : Value} (hj : c[j]? = some v) : w'.cell? ⟨k, j, none⟩ = some v := by
  simp only [World.cell?, h k c T fr hk hne]
  simpa using hj
theorem heap_cell {w : World} {k : Nat} {c : Array Value} {T : TypeId} {fr : Nat × Nat} (hk : w.heap[k]? = some (.cells c T fr)) {j : Nat} {v : Value} (hj : c[j]? = some v) : w.cell? ⟨k, j, none⟩ = some v := by
  simp only [World.cell?, hk]
  simpa using hj
theorem In.rdall {w : World} : ∀ (L : List Int), (∀ x ∈ L, -9223372036854775808 ≤ x ∧ x ≤ 9223372036854775807) → RdAll w (In.ds L) (L.map (Value.int .i64)) []
  | [], _ => RdAll.nil
  | x :: L, h => by
    have h0 := h x (by simp)
    have := (RdAll.one (w := w) (Rd.int_mk h0.1 h0.2)).append (In.rdall L fun y hy => h y (by simp [hy]))
    simpa [In.ds, In.d] using this
theorem own_RdL {w : World} {B : Nat} {e : TypeId} {v : Value} {L : List Int} (h : w.ownsRow B e 1 v L.length (L.map (Value.int .i64))) (hL : ∀ x ∈ L, -9223372036854775808 ≤ x ∧ x ≤ 9223372036854775807) : RdL w (In.ds L) v := by
  obtain ⟨F, h1, h2⟩ := Rd.of_own h (by rw [In.ds_length]) (In.rdall L hL) (Owned.nil w B) (fun _ _ hx => by simp at hx)
  exact ⟨F, h1⟩
theorem ownsRow.below {w w' : World} {B : Nat} {e : TypeId} {s n : Nat} {v : Value} {xs : List Value} (h : w.ownsRow B e s v n xs) (hb : Below w.heap.size w w') : w'.ownsRow B e s v n xs := by
  refine ⟨h.1, ?_⟩
  rcases h.2 with hn | ⟨g, cap, cur, rfl, hB, hg, rest⟩
  · exact .inl hn
  · exact .inr ⟨g, cap, cur, rfl, hB, by rw [hb.block g (Array.getElem?_eq_some_iff.1 hg).1]; exact hg, rest⟩
theorem one_new (w : World) (a : Value) (t : TypeId) : ∀ j u, [a][j]? = some u → (w.alloc (.cells #[a] t)).cell? ((⟨w.heap.size, 0, none⟩ : Addr).add j) = some u := by
  intro j u hj
  match j, hj with
  | 0, hj => simp at hj; subst hj; simp [Addr.add]
  | j + 1, hj => simp at hj
/-- The list as it is now. -/
def GrowNow (te : TypeId) (w0 w : World) (zs : List Int) (v : Value) (w' : World) : Prop :=
  w'.ownsRow w0.heap.size te 1 v zs.length (zs.map (Value.int .i64)) ∧ Below w0.heap.size w0 w' ∧ KeepT te w w'
/-- A list, longer. -/
def GrowPost (te : TypeId) (w0 w : World) (zs : List Int) (e : Ending) (w' : World) : Prop := ∃ v', e = .returned v' ∧ GrowNow te w0 w zs v' w'
theorem GrowNow.step {te : TypeId} {w0 w w1 w2 : World} {zs ys : List Int} {v v' : Value} (h : GrowNow te w0 w zs v w1) (k : GrowNow te w0 w1 ys v' w2) : GrowNow te w0 w ys v' w2 := ⟨k.1, k.2.1, h.2.2.trans k.2.2⟩
theorem GrowNow.below {te : TypeId} {w0 w w1 w2 : World} {zs : List Int} {v : Value} (h : GrowNow te w0 w zs v w1) (k : Below w1.heap.size w1 w2) : GrowNow te w0 w zs v w2 :=
  ⟨ownsRow.below h.1 k, h.2.1.trans (k.mono h.2.1.size), h.2.2.trans (KeepT.of_below k)⟩
theorem GrowPost.from {te : TypeId} {w0 w w1 w2 : World} {zs : List Int} {e : Ending} (h : GrowPost te w0 w1 zs e w2) (k : KeepT te w w1) : GrowPost te w0 w zs e w2 := by
  obtain ⟨v', h1, h2, h3, h4⟩ := h; exact ⟨v', h1, h2, h3, k.trans h4⟩
theorem GrowNow.drew {te : TypeId} {w0 w w1 : World} {zs : List Int} {v : Value} (h : GrowNow te w0 w zs v w1) : GrowNow te w0 w zs v w1.drew := ⟨h.1, h.2.1.drew, h.2.2⟩
theorem grow_one {te : TypeId} {w0 w w3 : World} {v v' : Value} {xs : List Int} {x : Int} {o : Obj} (hb0 : Below w0.heap.size w0 w) (ho : w.ownsRow w0.heap.size te 1 v xs.length (xs.map (Value.int .i64)))
    (h3 : w3.ownsRow w0.heap.size te 1 v' (xs.length + 1) (xs.map (Value.int .i64) ++ [.int .i64 x])) (hg : (w.alloc o).grownBy w3 v.ownBlock) : GrowPost te w0 w (xs ++ [x]) (.returned v') w3 :=
  ⟨v', rfl, by simpa using h3, (hb0.alloc hb0.size _).grown hg (by have := hb0.size; simp; omega) (fun k hk => (ho.lt k hk).1), (KeepT.of_below ((Below.refl _ _).alloc (Nat.le_refl _) _)).trans (KeepT.of_grown (ho.alloc _) hg)⟩
end Go.Proofs.Ytejdbmeoaekhcaa
