/- A list of cores that a call makes by append: what it owns, how it reads. No condition. -/
import Derived.Test.YtejdbmeoaekhcaaRow
import Derived.Test.YtejdbmeoaekhcaaOwI
import Derived.Test.YtejdbmeoaekhcaaToCo
import Derived.Test.YtejdbmeoaekhcaaMvP
namespace Go.Proofs.Ytejdbmeoaekhcaa
open Go.ChangeShapes Go.WideShapes Go.ChangeAt Go.RowKit
open Go.Sort (grow)
set_option linter.unusedVariables false

/-- A round of the loop that makes the list: one element more, its header stored in the box g. -/
theorem row_round4 {te : TypeId} {m n c g q s B : Nat} {w wr W2 W3 : World} {ds : List D} {d : D} {v0 u : Value} {xs cs : List Value} {F : List Nat} {o : Obj} {p : Nat} (hB : Below B w wr) (hBg : B ≤ g) (hgs : g < s) (hZ : s ≤ wr.heap.size) (hl : ds.length = n) (ho : wr.ownsRow s te m v0 n xs) (hr : RdAll wr ds xs F) (hw : Owned wr s F)
    (hn : ∀ g, v0.ownBlock = some g → g ∉ F) (h5 : Below wr.heap.size wr W2) (hd : OwnS W2 wr.heap.size d cs) (hg : (W2.alloc o).grownBy W3 v0.ownBlock) (ho3 : W3.ownsRow s te m (.slice (some ⟨q, 0, none⟩) (n + 1) c) (n + 1) (xs ++ cs)) (hat : v0.ownBlock = some q ∨ q = W2.heap.size + 1) :
    (∀ x, x < s → x ≠ g → (W3.setCell ⟨g, p, none⟩ u).heap[x]? = wr.heap[x]?) ∧ W3.heap[g]? = wr.heap[g]? ∧ Below B w (W3.setCell ⟨g, p, none⟩ u) ∧ s ≤ (W3.setCell ⟨g, p, none⟩ u).heap.size ∧ RowNow te m s (ds ++ [d]) (.slice (some ⟨q, 0, none⟩) (n + 1) c) (W3.setCell ⟨g, p, none⟩ u) := by
  subst hl
  have hal : Below W2.heap.size W2 (W2.alloc o) := (Below.refl _ _).alloc (Nat.le_refl _) _
  have h6 : Below wr.heap.size wr (W2.alloc o) := h5.trans (hal.mono h5.size)
  have hv : ∀ k, v0.ownBlock = some k → s ≤ k := fun k hk => (ho.lt k hk).1
  have hk3 : ∀ x, x < s → W3.heap[x]? = wr.heap[x]? := fun x hx => (hg.block x (by have := h6.size; omega) fun e => by have := hv x e.symm; omega).trans (h6.block x (by omega))
  have hrow := RowNow.push (v' := .slice (some ⟨q, 0, none⟩) (ds.length + 1) c) ho hr hw hn hZ h6 (hd.below hal) hg ho3 fun g' hg' => by
    simp only [Value.ownBlock, Option.some.injEq] at hg'
    subst hg'
    rcases hat with e | e
    · exact .inl e
    · exact .inr (by rw [e]; simp)
  have hb3 : Below B w W3 := (hB.trans (h6.mono (by omega))).grown hg (by have := h6.size; omega) fun k hk => by have := hv k hk; omega
  have hs3 : s ≤ W3.heap.size := by have := h6.size; have := hg.size; omega
  refine ⟨fun x hx hne => (heap_set_ne0 u hne).trans (hk3 x hx), hk3 g hgs, hb3.setCell (by simpa using hBg) _, by simp [World.setCell]; omega, hrow.keep fun x hx _ => heap_set_ne0 u (by omega)⟩
theorem set4 {w : World} {b : Nat} {T : TypeId} {x y z t : Value} (h : w.heap[b]? = some (.cells #[x, y, z, t] T (0, 0))) (p q r u : Value) : ((((w.setCell ⟨b, 0, none⟩ p).setCell ⟨b, 1, none⟩ q).setCell ⟨b, 2, none⟩ r).setCell ⟨b, 3, none⟩ u).heap[b]? = some (.cells #[p, q, r, u] T (0, 0)) :=
  heap_setCell_at _ b 3 u (heap_setCell_at _ b 2 r (heap_setCell_at _ b 1 q (heap_setCell_at w b 0 p h)))
theorem set4_ne {w : World} {b x : Nat} (p q r u : Value) (h : x ≠ b) : ((((w.setCell ⟨b, 0, none⟩ p).setCell ⟨b, 1, none⟩ q).setCell ⟨b, 2, none⟩ r).setCell ⟨b, 3, none⟩ u).heap[x]? = w.heap[x]? :=
  (heap_set_ne0 u h).trans ((heap_set_ne0 r h).trans ((heap_set_ne0 q h).trans (heap_set_ne0 p h)))
theorem set4_size (w : World) (b : Nat) (p q r u : Value) : ((((w.setCell ⟨b, 0, none⟩ p).setCell ⟨b, 1, none⟩ q).setCell ⟨b, 2, none⟩ r).setCell ⟨b, 3, none⟩ u).heap.size = w.heap.size := by simp [World.setCell]
theorem set4_below {w w0 : World} {B b : Nat} (h : Below B w0 w) (hb : B ≤ b) (p q r u : Value) : Below B w0 ((((w.setCell ⟨b, 0, none⟩ p).setCell ⟨b, 1, none⟩ q).setCell ⟨b, 2, none⟩ r).setCell ⟨b, 3, none⟩ u) :=
  (((h.setCell hb _).setCell hb _).setCell hb _).setCell hb _
abbrev set4W (w : World) (b : Nat) (p q r u : Value) : World := (((w.setCell ⟨b, 0, none⟩ p).setCell ⟨b, 1, none⟩ q).setCell ⟨b, 2, none⟩ r).setCell ⟨b, 3, none⟩ u
theorem cells_free {w : World} {b : Nat} {c : Array Value} {T : TypeId} (h : w.heap[b]? = some (.cells c T (0, 0))) (q : Nat) : w.frozen? ⟨b, q, none⟩ = false := heap_free h q
def GivesC : Co → World → Ending → World → Prop
  | .mk k v ds ks => GivesCo k v ds ks
/-- What a call owns: its list of numbers, below s, apart from the box g. -/
def OwnB (w : World) (B s g : Nat) (d : D) (v : Value) : Prop := ∃ F, Rd w d [v] F ∧ Owned w B F ∧ ∀ x ∈ F, x < s ∧ x ≠ g
theorem OwnB.keep {w w' : World} {B s g : Nat} {d : D} {v : Value} (h : OwnB w B s g d v) (hk : ∀ x, B ≤ x → x < s → x ≠ g → w'.heap[x]? = w.heap[x]?) : OwnB w' B s g d v := by
  obtain ⟨F, r, o, hF⟩ := h
  exact ⟨F, r.keep fun x hx => hk x (o.2 x hx).1 (hF x hx).1 (hF x hx).2, o.keep fun x hx => hk x (o.2 x hx).1 (hF x hx).1 (hF x hx).2, hF⟩
theorem Co.own_mk {w : World} {B s g : Nat} {k v : Int} {ds : List Int} {ks : List Co} {ad : Option Addr} {cd : Nat} {a : Option Addr} {c : Nat} (hk : -9223372036854775808 ≤ k ∧ k ≤ 9223372036854775807) (hv : -9223372036854775808 ≤ v ∧ v ≤ 9223372036854775807) (hB : B ≤ s) (hd : OwnB w B s g (.list (In.ds ds)) (.slice ad ds.length cd)) (h : OwnL w s (Co.ds ks) (.slice a ks.length c)) : OwnS w B (Co.d (.mk k v ds ks)) [.int .i64 k, .int .i64 v, .slice ad ds.length cd, .slice a ks.length c] := by
  obtain ⟨F1, r1, o1, l1⟩ := hd
  obtain ⟨F2, r2, o2⟩ := h
  refine ⟨F1 ++ F2, Rd.struct_mk (by simpa using RdAll.cons (Rd.int_mk hk.1 hk.2) (RdAll.cons (Rd.int_mk hv.1 hv.2) (RdAll.cons r1 (RdAll.one r2)))), List.nodup_append.2 ⟨o1.1, o2.1, fun x hx y hy e => by subst e; have := l1 x hx; have := o2.2 x hy; omega⟩, fun x hx => ?_⟩
  rcases List.mem_append.1 hx with hx | hx
  · exact o1.2 x hx
  · exact ⟨Nat.le_trans hB (o2.2 x hx).1, (o2.2 x hx).2⟩
theorem GivesC.of_len {t : Co} {k v : Int} {ds : List Int} {ks : List Co} {ad : Option Addr} {cd : Nat} {a : Option Addr} {c m B s g : Nat} {w w' : World} (he : t = Co.mk k v ds ks) (hl : ks.length = m) (hk : -9223372036854775808 ≤ k ∧ k ≤ 9223372036854775807) (hv : -9223372036854775808 ≤ v ∧ v ≤ 9223372036854775807) (hw : w.heap.size ≤ B) (hB : B ≤ s) (hd : OwnB w' B s g (.list (In.ds ds)) (.slice ad ds.length cd)) (h1 : OwnL w' s (Co.ds ks) (.slice a m c)) (h2 : Below w.heap.size w w') : GivesC t w (.returned (.agg #[.int .i64 k, .int .i64 v, .slice ad ds.length cd, .slice a m c])) w' := by
  subst hl; subst he
  exact ⟨ad, cd, a, c, rfl, OwnS.mono (Co.own_mk hk hv hB hd h1) hw, h2⟩
theorem box_after {w V1 : World} {Z C : Obj} {d : D} {v : Value} (hb : Below (w.alloc Z).drew.heap.size (w.alloc Z).drew V1) (ho : OwnS V1 (w.alloc Z).drew.heap.size d [v]) :
    w.heap.size + 1 ≤ V1.heap.size ∧ V1.heap.size < (V1.alloc C).heap.size ∧ Below w.heap.size w (V1.alloc C) ∧ (V1.alloc C).heap[w.heap.size]? = some Z ∧ (V1.alloc C).heap[V1.heap.size]? = some C ∧ OwnB (V1.alloc C) (w.heap.size + 1) (V1.alloc C).heap.size V1.heap.size d v := by
  have hs : (w.alloc Z).drew.heap.size = w.heap.size + 1 := by simp
  rw [hs] at hb ho
  have h1 := hb.size
  rw [hs] at h1
  obtain ⟨F, r, o⟩ := ho
  have hB : Below w.heap.size w V1 := (((Below.refl _ _).alloc (Nat.le_refl _) _).drew).trans (hb.mono (by omega))
  refine ⟨h1, by simp, hB.alloc (by omega) _, ?_, heap_alloc_new _ _, ⟨F, r.keep fun x hx => Below.heap_alloc _ _ _ (r.lt x hx), o.keep fun x hx => Below.heap_alloc _ _ _ (r.lt x hx), fun x hx => ⟨by have := r.lt x hx; simp; omega, by have := r.lt x hx; omega⟩⟩⟩
  rw [Below.heap_alloc _ _ _ (by omega), hb.block _ (by omega)]
  exact heap_alloc_new w Z
theorem box_before {w V1 : World} {Z : Obj} {d : D} {v x y z t p q r u : Value} {T : TypeId} (hb : Below ((w.alloc Z).alloc (.cells #[x, y, z, t] T (0, 0))).drew.heap.size ((w.alloc Z).alloc (.cells #[x, y, z, t] T (0, 0))).drew V1) (ho : OwnS V1 ((w.alloc Z).alloc (.cells #[x, y, z, t] T (0, 0))).drew.heap.size d [v]) :
    w.heap.size + 1 ≤ w.heap.size + 1 ∧ w.heap.size + 1 < (set4W V1 (w.heap.size + 1) p q r u).heap.size ∧ Below w.heap.size w (set4W V1 (w.heap.size + 1) p q r u) ∧ (set4W V1 (w.heap.size + 1) p q r u).heap[w.heap.size]? = some Z ∧ (set4W V1 (w.heap.size + 1) p q r u).heap[w.heap.size + 1]? = some (.cells #[p, q, r, u] T (0, 0)) ∧ OwnB (set4W V1 (w.heap.size + 1) p q r u) (w.heap.size + 1) (set4W V1 (w.heap.size + 1) p q r u).heap.size (w.heap.size + 1) d v := by
  have hs : ((w.alloc Z).alloc (.cells #[x, y, z, t] T (0, 0))).drew.heap.size = w.heap.size + 2 := by simp
  rw [hs] at hb ho
  have h1 := hb.size
  rw [hs] at h1
  obtain ⟨F, hr, o⟩ := ho
  have hB0 : Below w.heap.size w ((w.alloc Z).alloc (.cells #[x, y, z, t] T (0, 0))).drew := ((((Below.refl _ _).alloc (Nat.le_refl _) _).alloc (by simp) _)).drew
  have hB : Below w.heap.size w V1 := hB0.trans (hb.mono (by omega))
  have hx : V1.heap[w.heap.size + 1]? = some (.cells #[x, y, z, t] T (0, 0)) := by
    rw [hb.block _ (by omega)]
    have h := heap_alloc_new (w.alloc Z) (.cells #[x, y, z, t] T (0, 0))
    rw [World.size_alloc] at h; exact h
  have hk4 : ∀ k, k ≠ w.heap.size + 1 → (set4W V1 (w.heap.size + 1) p q r u).heap[k]? = V1.heap[k]? := fun k hk => set4_ne p q r u hk
  have hsz : (set4W V1 (w.heap.size + 1) p q r u).heap.size = V1.heap.size := set4_size V1 (w.heap.size + 1) p q r u
  have hx4 : (set4W V1 (w.heap.size + 1) p q r u).heap[w.heap.size + 1]? = some (.cells #[p, q, r, u] T (0, 0)) := set4 hx p q r u
  have hb4 : Below w.heap.size w (set4W V1 (w.heap.size + 1) p q r u) := set4_below hB (Nat.le_succ _) p q r u
  have h5 : ∀ k, k ∈ F → w.heap.size + 2 ≤ k := fun k hk => (o.2 k hk).1
  generalize set4W V1 (w.heap.size + 1) p q r u = W4 at hk4 hsz hx4 hb4 ⊢
  refine ⟨Nat.le_refl _, by omega, hb4, ?_, hx4, ⟨F, hr.keep fun k hk => hk4 k (by have := h5 k hk; omega), (o.mono (base' := w.heap.size + 1) (by omega)).keep fun k hk => hk4 k (by have := h5 k hk; omega), fun k hk => ⟨by rw [hsz]; exact hr.lt k hk, by have := h5 k hk; omega⟩⟩⟩
  rw [hk4 _ (by omega), hb.block _ (by omega)]
  show ((w.alloc Z).alloc _).heap[w.heap.size]? = _
  rw [Below.heap_alloc _ _ _ (by simp)]
  exact heap_alloc_new w Z
end Go.Proofs.Ytejdbmeoaekhcaa
