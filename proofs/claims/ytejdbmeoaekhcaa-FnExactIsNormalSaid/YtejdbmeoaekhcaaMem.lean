/- Data in memory: what a value of nested structs and slices reads as, with the blocks that the reading goes through. Over whatever program. No condition. -/
import Derived.Test.YtejdbmeoaekhcaaFrame
namespace Go.Proofs.Ytejdbmeoaekhcaa
open Go.RowKit

/-- Data: integers, truth values, strings, lists, structs. -/
inductive D where
  | int (n : Int)
  | bool (b : Bool)
  | str (s : ByteArray)
  | list (l : List D)
  | struct (l : List D)

mutual
/-- How many cells a datum takes. -/
def D.len : D → Nat
  | .struct l => D.lens l
  | _ => 1
def D.lens : List D → Nat
  | [] => 0
  | d :: l => D.len d + D.lens l
end

/-- These values lie in a row of cells. -/
def Cells (w : World) (b o : Nat) (xs : List Value) : Prop := ∀ j v, xs[j]? = some v → w.cell? ⟨b, o + j, none⟩ = some v

mutual
/-- The cells 'cs' read as 'd' in 'w'; 'F': the blocks of the slices on the way, each as often as it is met. -/
def Rd (w : World) : D → List Value → List Nat → Prop
  | .int n, cs, F => cs = [.int .i64 n] ∧ F = [] ∧ -9223372036854775808 ≤ n ∧ n ≤ 9223372036854775807
  | .bool b, cs, F => cs = [.bool b] ∧ F = []
  | .str s, cs, F => cs = [.string s] ∧ F = [] ∧ s.size ≤ 9223372036854775807
  | .list ds, cs, F => ∃ (a : Option Addr) (len cap : Nat), cs = [.slice a len cap] ∧ len = ds.length ∧ len ≤ cap ∧ cap ≤ 9223372036854775807 ∧
      ((ds = [] ∧ F = []) ∨ ∃ (b o : Nat) (xs : List Value) (F' : List Nat), ds ≠ [] ∧ a = some ⟨b, o, none⟩ ∧ F = b :: F' ∧ b < w.heap.size ∧ Cells w b o xs ∧ RdAll w ds xs F')
  | .struct ds, cs, F => RdAll w ds cs F
def RdAll (w : World) : List D → List Value → List Nat → Prop
  | [], cs, F => cs = [] ∧ F = []
  | d :: ds, cs, F => ∃ c1 c2 F1 F2, cs = c1 ++ c2 ∧ F = F1 ++ F2 ∧ Rd w d c1 F1 ∧ RdAll w ds c2 F2
end

theorem Cells.keep {w w' : World} {b o : Nat} {xs : List Value} (h : Cells w b o xs) (hb : w'.heap[b]? = w.heap[b]?) : Cells w' b o xs :=
  fun j v hj => by rw [← h j v hj]; exact World.cell?_of_block (w := w) hb

mutual
theorem Rd.keep {w w' : World} : ∀ {d : D} {cs : List Value} {F : List Nat}, (∀ b ∈ F, w'.heap[b]? = w.heap[b]?) → Rd w d cs F → Rd w' d cs F
  | .int _, _, _, _, h => by unfold Rd at *; exact h
  | .bool _, _, _, _, h => by unfold Rd at *; exact h
  | .str _, _, _, _, h => by unfold Rd at *; exact h
  | .struct ds, _, _, hk, h => by
    unfold Rd at *
    exact RdAll.keep hk h
  | .list ds, _, _, hk, h => by
    unfold Rd at *
    obtain ⟨a, len, cap, h1, h2, h3, h4, h5⟩ := h
    refine ⟨a, len, cap, h1, h2, h3, h4, ?_⟩
    rcases h5 with h5 | ⟨b, o, xs, F', k1, k2, rfl, k4, k5, k6⟩
    · exact .inl h5
    · have hb := hk b (by simp)
      refine .inr ⟨b, o, xs, F', k1, k2, rfl, ?_, k5.keep hb, RdAll.keep (fun x hx => hk x (by simp [hx])) k6⟩
      rw [Array.getElem?_eq_getElem k4] at hb
      exact (Array.getElem?_eq_some_iff.1 hb).1
theorem RdAll.keep {w w' : World} : ∀ {ds : List D} {cs : List Value} {F : List Nat}, (∀ b ∈ F, w'.heap[b]? = w.heap[b]?) → RdAll w ds cs F → RdAll w' ds cs F
  | [], _, _, _, h => by unfold RdAll at *; exact h
  | d :: ds, _, _, hk, h => by
    unfold RdAll at *
    obtain ⟨c1, c2, F1, F2, rfl, rfl, h1, h2⟩ := h
    exact ⟨c1, c2, F1, F2, rfl, rfl, Rd.keep (fun b hb => hk b (by simp [hb])) h1, RdAll.keep (fun b hb => hk b (by simp [hb])) h2⟩
end

mutual
theorem Rd.lt {w : World} : ∀ {d : D} {cs : List Value} {F : List Nat}, Rd w d cs F → ∀ b ∈ F, b < w.heap.size
  | .int _, _, _, h => by unfold Rd at h; simp [h.2.1]
  | .bool _, _, _, h => by unfold Rd at h; simp [h.2]
  | .str _, _, _, h => by unfold Rd at h; simp [h.2.1]
  | .struct ds, _, _, h => by unfold Rd at h; exact RdAll.lt h
  | .list ds, _, _, h => by
    unfold Rd at h
    obtain ⟨a, len, cap, h1, h2, h3, h4, h5⟩ := h
    rcases h5 with ⟨_, rfl⟩ | ⟨b, o, xs, F', k1, k2, rfl, k4, k5, k6⟩
    · simp
    · intro x hx
      rcases List.mem_cons.1 hx with rfl | hx
      · exact k4
      · exact RdAll.lt k6 x hx
theorem RdAll.lt {w : World} : ∀ {ds : List D} {cs : List Value} {F : List Nat}, RdAll w ds cs F → ∀ b ∈ F, b < w.heap.size
  | [], _, _, h => by unfold RdAll at h; simp [h.2]
  | d :: ds, _, _, h => by
    unfold RdAll at h
    obtain ⟨c1, c2, F1, F2, rfl, rfl, h1, h2⟩ := h
    intro b hb
    rcases List.mem_append.1 hb with hb | hb
    · exact Rd.lt h1 b hb
    · exact RdAll.lt h2 b hb
end

theorem Rd.below {w w' : World} {d : D} {cs : List Value} {F : List Nat} (h : Rd w d cs F) (hb : Below w.heap.size w w') : Rd w' d cs F :=
  h.keep fun b hm => hb.block b (h.lt b hm)
theorem RdAll.below {w w' : World} {d : List D} {cs : List Value} {F : List Nat} (h : RdAll w d cs F) (hb : Below w.heap.size w w') : RdAll w' d cs F :=
  h.keep fun b hm => hb.block b (h.lt b hm)
theorem Cells.below {B : Nat} {w w' : World} {b o : Nat} {xs : List Value} (h : Cells w b o xs) (hb : Below B w w') (hB : b < B) : Cells w' b o xs := h.keep (hb.block b hB)

mutual
theorem Rd.length {w : World} : ∀ {d : D} {cs : List Value} {F : List Nat}, Rd w d cs F → cs.length = d.len
  | .int _, _, _, h => by unfold Rd at h; simp [h.1, D.len]
  | .bool _, _, _, h => by unfold Rd at h; simp [h.1, D.len]
  | .str _, _, _, h => by unfold Rd at h; simp [h.1, D.len]
  | .list _, _, _, h => by unfold Rd at h; obtain ⟨a, len, cap, h1, _⟩ := h; simp [h1, D.len]
  | .struct ds, _, _, h => by unfold Rd at h; rw [D.len]; exact RdAll.length h
theorem RdAll.length {w : World} : ∀ {ds : List D} {cs : List Value} {F : List Nat}, RdAll w ds cs F → cs.length = D.lens ds
  | [], _, _, h => by unfold RdAll at h; simp [h.1, D.lens]
  | d :: ds, _, _, h => by
    unfold RdAll at h
    obtain ⟨c1, c2, F1, F2, rfl, rfl, h1, h2⟩ := h
    rw [List.length_append, D.lens, Rd.length h1, RdAll.length h2]
end

theorem D.lens_stride {n : Nat} : ∀ {ds : List D}, (∀ d ∈ ds, d.len = n) → D.lens ds = ds.length * n
  | [], _ => by simp [D.lens]
  | d :: ds, h => by rw [D.lens, h d (by simp), D.lens_stride (fun x hx => h x (by simp [hx])), List.length_cons, Nat.succ_mul, Nat.add_comm]

/-- The element number i of a row of elements of one width. -/
theorem RdAll.get {w : World} {n : Nat} : ∀ {ds : List D} {xs : List Value} {F : List Nat} {i : Nat} {d : D}, RdAll w ds xs F → (∀ d ∈ ds, d.len = n) → ds[i]? = some d →
    ∃ cs Fi, (∀ j v, cs[j]? = some v → xs[i * n + j]? = some v) ∧ Rd w d cs Fi ∧ (∀ x ∈ Fi, x ∈ F)
  | [], _, _, _, _, _, _, h => by simp at h
  | e :: ds, xs, F, 0, d, h, hn, hi => by
    unfold RdAll at h
    obtain ⟨c1, c2, F1, F2, rfl, rfl, h1, h2⟩ := h
    simp at hi
    subst hi
    refine ⟨c1, F1, fun j v hj => ?_, h1, fun x hx => by simp [hx]⟩
    have : j < c1.length := (List.getElem?_eq_some_iff.1 hj).1
    rw [Nat.zero_mul, Nat.zero_add, List.getElem?_append_left this]; exact hj
  | e :: ds, xs, F, i + 1, d, h, hn, hi => by
    unfold RdAll at h
    obtain ⟨c1, c2, F1, F2, rfl, rfl, h1, h2⟩ := h
    obtain ⟨cs, Fi, k1, k2, k3⟩ := RdAll.get (n := n) h2 (fun x hx => hn x (by simp [hx])) (by simpa using hi)
    refine ⟨cs, Fi, fun j v hj => ?_, k2, fun x hx => by simp [k3 x hx]⟩
    have hl : c1.length = n := by rw [Rd.length h1]; exact hn e (by simp)
    rw [List.getElem?_append_right (by rw [hl, Nat.succ_mul]; omega), hl, show (i + 1) * n + j - n = i * n + j by rw [Nat.succ_mul]; omega]
    exact k1 j v hj

theorem RdAll.append {w : World} : ∀ {ds es : List D} {xs ys : List Value} {F G : List Nat}, RdAll w ds xs F → RdAll w es ys G → RdAll w (ds ++ es) (xs ++ ys) (F ++ G)
  | [], _, _, _, _, _, h, h' => by unfold RdAll at h; obtain ⟨rfl, rfl⟩ := h; simpa using h'
  | d :: ds, _, _, _, _, _, h, h' => by
    unfold RdAll at h
    obtain ⟨c1, c2, F1, F2, rfl, rfl, h1, h2⟩ := h
    rw [List.cons_append]
    unfold RdAll
    exact ⟨c1, c2 ++ _, F1, F2 ++ _, by rw [List.append_assoc], by rw [List.append_assoc], h1, RdAll.append h2 h'⟩

theorem RdAll.one {w : World} {d : D} {cs : List Value} {F : List Nat} (h : Rd w d cs F) : RdAll w [d] cs F := by
  unfold RdAll
  exact ⟨cs, [], F, [], by simp, by simp, h, by unfold RdAll; exact ⟨rfl, rfl⟩⟩

theorem RdAll.nil {w : World} : RdAll w [] [] [] := by unfold RdAll; exact ⟨rfl, rfl⟩

/-- Two readings of one value give one datum. -/
theorem Rd.int_inv {w : World} {n : Int} {cs : List Value} {F : List Nat} (h : Rd w (.int n) cs F) : cs = [.int .i64 n] ∧ F = [] ∧ -9223372036854775808 ≤ n ∧ n ≤ 9223372036854775807 := by unfold Rd at h; exact h
theorem Rd.str_inv {w : World} {s : ByteArray} {cs : List Value} {F : List Nat} (h : Rd w (.str s) cs F) : cs = [.string s] ∧ F = [] ∧ s.size ≤ 9223372036854775807 := by unfold Rd at h; exact h
theorem Rd.bool_inv {w : World} {b : Bool} {cs : List Value} {F : List Nat} (h : Rd w (.bool b) cs F) : cs = [.bool b] ∧ F = [] := by unfold Rd at h; exact h
theorem Rd.struct_inv {w : World} {ds : List D} {cs : List Value} {F : List Nat} (h : Rd w (.struct ds) cs F) : RdAll w ds cs F := by unfold Rd at h; exact h
theorem RdAll.cons_inv {w : World} {d : D} {ds : List D} {cs : List Value} {F : List Nat} (h : RdAll w (d :: ds) cs F) : ∃ c1 c2 F1 F2, cs = c1 ++ c2 ∧ F = F1 ++ F2 ∧ Rd w d c1 F1 ∧ RdAll w ds c2 F2 := by unfold RdAll at h; exact h
theorem RdAll.nil_inv {w : World} {cs : List Value} {F : List Nat} (h : RdAll w [] cs F) : cs = [] ∧ F = [] := by unfold RdAll at h; exact h
theorem Rd.list_inv {w : World} {ds : List D} {cs : List Value} {F : List Nat} (h : Rd w (.list ds) cs F) : ∃ (a : Option Addr) (cap : Nat), cs = [.slice a ds.length cap] ∧ ds.length ≤ cap ∧ cap ≤ 9223372036854775807 ∧
      ((ds = [] ∧ F = []) ∨ ∃ (b o : Nat) (xs : List Value) (F' : List Nat), ds ≠ [] ∧ a = some ⟨b, o, none⟩ ∧ F = b :: F' ∧ b < w.heap.size ∧ Cells w b o xs ∧ RdAll w ds xs F') := by
  unfold Rd at h
  obtain ⟨a, len, cap, h1, rfl, h3, h4, h5⟩ := h
  exact ⟨a, cap, h1, h3, h4, h5⟩
theorem Rd.int_mk {w : World} {n : Int} (h1 : -9223372036854775808 ≤ n) (h2 : n ≤ 9223372036854775807) : Rd w (.int n) [.int .i64 n] [] := by unfold Rd; exact ⟨rfl, rfl, h1, h2⟩
theorem Rd.str_mk {w : World} {s : ByteArray} (h : s.size ≤ 9223372036854775807) : Rd w (.str s) [.string s] [] := by unfold Rd; exact ⟨rfl, rfl, h⟩
theorem Rd.bool_mk {w : World} {b : Bool} : Rd w (.bool b) [.bool b] [] := by unfold Rd; exact ⟨rfl, rfl⟩
theorem Rd.struct_mk {w : World} {ds : List D} {cs : List Value} {F : List Nat} (h : RdAll w ds cs F) : Rd w (.struct ds) cs F := by unfold Rd; exact h
theorem RdAll.cons {w : World} {d : D} {ds : List D} {c1 c2 : List Value} {F1 F2 : List Nat} (h1 : Rd w d c1 F1) (h2 : RdAll w ds c2 F2) : RdAll w (d :: ds) (c1 ++ c2) (F1 ++ F2) := by
  unfold RdAll; exact ⟨c1, c2, F1, F2, rfl, rfl, h1, h2⟩
theorem Rd.nil_mk {w : World} {a : Option Addr} {cap : Nat} (h : cap ≤ 9223372036854775807) : Rd w (.list []) [.slice a 0 cap] [] := by
  unfold Rd; exact ⟨a, 0, cap, rfl, rfl, Nat.zero_le _, h, .inl ⟨rfl, rfl⟩⟩
theorem Rd.list_mk {w : World} {ds : List D} {b o cap : Nat} {xs : List Value} {F : List Nat} (hne : ds ≠ []) (hl : ds.length ≤ cap) (hc : cap ≤ 9223372036854775807) (hb : b < w.heap.size) (hx : Cells w b o xs) (h : RdAll w ds xs F) :
    Rd w (.list ds) [.slice (some ⟨b, o, none⟩) ds.length cap] (b :: F) := by
  unfold Rd; exact ⟨_, _, cap, rfl, rfl, hl, hc, .inr ⟨b, o, xs, F, hne, rfl, rfl, hb, hx, h⟩⟩

/-- The blocks are each met once, are the call's own (from 'base' on), and none is frozen. -/
def Owned (w : World) (base : Nat) (F : List Nat) : Prop := F.Nodup ∧ ∀ b ∈ F, base ≤ b ∧ ∃ cur e, w.heap[b]? = some (.cells cur e (0, 0))
theorem Owned.nil (w : World) (base : Nat) : Owned w base [] := ⟨List.nodup_nil, fun b hb => absurd hb (by simp)⟩
theorem Owned.keep {w w' : World} {base : Nat} {F : List Nat} (h : Owned w base F) (hk : ∀ b ∈ F, w'.heap[b]? = w.heap[b]?) : Owned w' base F :=
  ⟨h.1, fun b hb => ⟨(h.2 b hb).1, by rw [hk b hb]; exact (h.2 b hb).2⟩⟩
theorem Owned.mono {w : World} {base base' : Nat} {F : List Nat} (h : Owned w base F) (hB : base' ≤ base) : Owned w base' F := ⟨h.1, fun b hb => ⟨Nat.le_trans hB (h.2 b hb).1, (h.2 b hb).2⟩⟩
theorem Owned.lt {w : World} {base : Nat} {F : List Nat} (h : Owned w base F) : ∀ b ∈ F, b < w.heap.size := fun b hb => by
  obtain ⟨_, cur, e, hh⟩ := h.2 b hb
  exact (Array.getElem?_eq_some_iff.1 hh).1
/-- An owned slice, seen as the walk's append and make leave it. -/
theorem Rd.of_own {w : World} {base : Nat} {e : TypeId} {size n : Nat} {v : Value} {xs : List Value} {ds : List D} {F : List Nat} (h : w.ownsRow base e size v n xs) (hn : n = ds.length) (hx : RdAll w ds xs F) (hF : Owned w base F) (hg : ∀ g, v.ownBlock = some g → g ∉ F) :
    ∃ F', Rd w (.list ds) [v] F' ∧ Owned w base F' := by
  obtain ⟨h1, h2⟩ := h
  subst hn
  rcases h2 with ⟨rfl, h2⟩ | ⟨g, cap, cur, rfl, hb, hh, hl, hc, hs, ht⟩
  · have : ds = [] := List.length_eq_zero_iff.1 h2
    subst this
    exact ⟨[], Rd.nil_mk (by omega), Owned.nil _ _⟩
  · have hc' : cap ≤ 9223372036854775807 := by unfold maxLen at hc; omega
    by_cases hd : ds = []
    · subst hd
      exact ⟨[], Rd.nil_mk hc', Owned.nil _ _⟩
    · refine ⟨g :: F, Rd.list_mk hd hl hc' (Array.getElem?_eq_some_iff.1 hh).1 (fun j v hj => ?_) hx, List.nodup_cons.2 ⟨hg g rfl, hF.1⟩, fun b hm => ?_⟩
      · subst ht
        have hj' : j < ds.length * size := by have := (List.getElem?_eq_some_iff.1 hj).1; simp at this; omega
        rw [List.getElem?_take_of_lt hj'] at hj
        simp only [World.cell?, hh]
        simpa using hj
      · rcases List.mem_cons.1 hm with rfl | hm
        · exact ⟨hb, cur, e, hh⟩
        · exact hF.2 b hm

/-- Variables that lie in memory: each with its block and its cells. -/
def Boxes (w : World) (l : List (Nat × List Value)) : Prop := ∀ (i b : Nat) (cs : List Value), l[i]? = some (b, cs) → b < w.heap.size ∧ ∀ (j : Nat) (v : Value), cs[j]? = some v → w.cell? ⟨b, j, none⟩ = some v
theorem Boxes.nil (w : World) : Boxes w [] := fun i b cs h => by simp at h
theorem Boxes.below {w w' : World} {l : List (Nat × List Value)} (h : Boxes w l) (hb : Below w.heap.size w w') : Boxes w' l := fun i b cs hi =>
  ⟨Nat.lt_of_lt_of_le (h i b cs hi).1 hb.size, fun j v hj => (hb.cell (p := ⟨b, j, none⟩) (h i b cs hi).1).trans ((h i b cs hi).2 j v hj)⟩
theorem Boxes.at {w : World} {l : List (Nat × List Value)} (h : Boxes w l) (i j : Nat) {b : Nat} {cs : List Value} {v : Value} (hi : l[i]? = some (b, cs)) (hj : cs[j]? = some v) : w.cell? ⟨b, j, none⟩ = some v := (h i b cs hi).2 j v hj
theorem Boxes.lt {w : World} {l : List (Nat × List Value)} (h : Boxes w l) (i : Nat) {b : Nat} {cs : List Value} (hi : l[i]? = some (b, cs)) : b < w.heap.size := (h i b cs hi).1
/-- One variable more, in a new block. -/
theorem Boxes.alloc {w : World} {l : List (Nat × List Value)} (h : Boxes w l) (c : Array Value) (e : TypeId) (fr : Nat × Nat) : Boxes (w.alloc (.cells c e fr)) ((w.heap.size, c.toList) :: l) := fun i b cs hi => by
  match i, hi with
  | 0, hi =>
    simp only [List.getElem?_cons_zero, Option.some.injEq, Prod.mk.injEq] at hi
    obtain ⟨rfl, rfl⟩ := hi
    refine ⟨by simp, fun j v hj => ?_⟩
    have hh : (w.alloc (.cells c e fr)).heap[w.heap.size]? = some (.cells c e fr) := heap_alloc_new w _
    simp only [World.cell?, hh]
    simpa using hj
  | i + 1, hi => exact (h.below ((Below.refl _ _).alloc (Nat.le_refl _) _)) i b cs (by simpa using hi)

/-! ### A struct stored into a row -/
/-- Values stored one behind the other. -/
def setMany (w : World) (b : Nat) : Nat → List Value → World
  | _, [] => w
  | o, v :: vs => setMany (w.setCell ⟨b, o, none⟩ v) b (o + 1) vs
def setArr (c : Array Value) : Nat → List Value → Array Value
  | _, [] => c
  | o, v :: vs => setArr (c.setIfInBounds o v) (o + 1) vs
theorem setArr_size : ∀ (vs : List Value) (c : Array Value) (o : Nat), (setArr c o vs).size = c.size
  | [], _, _ => rfl
  | v :: vs, c, o => by rw [setArr, setArr_size vs]; simp
theorem setArr_take : ∀ (vs : List Value) (c : Array Value) (o : Nat), o + vs.length ≤ c.size → (setArr c o vs).toList.take (o + vs.length) = c.toList.take o ++ vs
  | [], c, o, _ => by simp [setArr]
  | v :: vs, c, o, h => by
    simp only [List.length_cons] at h
    have e := setArr_take vs (c.setIfInBounds o v) (o + 1) (by simp; omega)
    rw [setArr, List.length_cons, show o + (vs.length + 1) = o + 1 + vs.length by omega, e]
    have : (c.setIfInBounds o v).toList.take (o + 1) = c.toList.take o ++ [v] := by
      rw [Array.toList_setIfInBounds, List.take_succ_eq_append_getElem (by simp; omega)]
      have e2 : List.take o (c.toList.set o v) = List.take o c.toList := by
        apply List.ext_getElem?
        intro i
        by_cases hi : i < o
        · rw [List.getElem?_take_of_lt hi, List.getElem?_take_of_lt hi, List.getElem?_set_ne (by omega)]
        · rw [List.getElem?_eq_none (by simp; omega), List.getElem?_eq_none (by simp; omega)]
      rw [e2]; simp
    rw [this]; simp
theorem heap_setCell_at (w : World) (b o : Nat) (v : Value) {cur : Array Value} {e : TypeId} {fr : Nat × Nat} (h : w.heap[b]? = some (.cells cur e fr)) :
    (w.setCell ⟨b, o, none⟩ v).heap[b]? = some (.cells (cur.setIfInBounds o v) e fr) := by
  simp [World.setCell, Array.getElem?_modify, h]
theorem setMany_at : ∀ (vs : List Value) (w : World) (b o : Nat) {cur : Array Value} {e : TypeId} {fr : Nat × Nat}, w.heap[b]? = some (.cells cur e fr) → (setMany w b o vs).heap[b]? = some (.cells (setArr cur o vs) e fr)
  | [], _, _, _, _, _, _, h => h
  | v :: vs, w, b, o, _, _, _, h => setMany_at vs _ b (o + 1) (heap_setCell_at w b o v h)
theorem setMany_size : ∀ (vs : List Value) (w : World) (b o : Nat), (setMany w b o vs).heap.size = w.heap.size
  | [], _, _, _ => rfl
  | v :: vs, w, b, o => by rw [setMany, setMany_size vs]; simp [World.setCell]
theorem setMany_else : ∀ (vs : List Value) (w : World) (b o : Nat) (k : Nat), k ≠ b → (setMany w b o vs).heap[k]? = w.heap[k]?
  | [], _, _, _, _, _ => rfl
  | v :: vs, w, b, o, k, h => by rw [setMany, setMany_else vs _ b (o + 1) k h]; exact Below.heap_setCell w ⟨b, o, none⟩ v k h
theorem Below.setMany {B : Nat} {a : World} : ∀ (vs : List Value) {w : World} {b : Nat} (o : Nat), Below B a w → B ≤ b → Below B a (setMany w b o vs)
  | [], _, _, _, h, _ => h
  | v :: vs, _, _, o, h, hb => Below.setMany vs (o + 1) (h.setCell (p := ⟨_, o, none⟩) hb v) hb
/-- A round of 'out[j] = a copy': the first j + 1 elements are read. -/
theorem fill_step {w1 : World} {g j m : Nat} {e : TypeId} {cur : Array Value} {ds : List D} {d : D} {vs : List Value} {F G : List Nat} {base : Nat}
    (hc : w1.heap[g]? = some (.cells cur e (0, 0))) (hm : vs.length = m) (hs : (j + 1) * m ≤ cur.size) (hr : RdAll w1 ds (cur.toList.take (j * m)) F) (hd : Rd w1 d vs G)
    (hF : Owned w1 base F) (hG : Owned w1 base G) (hgF : ∀ x ∈ F, x ≠ g) (hgG : ∀ x ∈ G, x ≠ g) (hFG : ∀ x ∈ F, ∀ y ∈ G, x ≠ y) :
    ∃ cur' H, (setMany w1 g (j * m) vs).heap[g]? = some (.cells cur' e (0, 0)) ∧ cur'.size = cur.size ∧ RdAll (setMany w1 g (j * m) vs) (ds ++ [d]) (cur'.toList.take ((j + 1) * m)) H ∧ Owned (setMany w1 g (j * m) vs) base H ∧ (∀ x ∈ H, x ∈ F ∨ x ∈ G) := by
  subst hm
  refine ⟨setArr cur (j * vs.length) vs, F ++ G, setMany_at vs w1 g _ hc, setArr_size _ _ _, ?_, ⟨?_, ?_⟩, fun x hx => List.mem_append.1 hx⟩
  · rw [Nat.succ_mul, setArr_take vs cur (j * vs.length) (by rw [Nat.succ_mul] at hs; exact hs)]
    exact (hr.keep fun b hb => setMany_else _ _ _ _ _ (hgF b hb)).append (RdAll.one (hd.keep fun b hb => setMany_else _ _ _ _ _ (hgG b hb)))
  · exact List.nodup_append.2 ⟨hF.1, hG.1, hFG⟩
  · intro b hb
    rcases List.mem_append.1 hb with hb | hb
    · rw [setMany_else _ _ _ _ _ (hgF b hb)]; exact hF.2 b hb
    · rw [setMany_else _ _ _ _ _ (hgG b hb)]; exact hG.2 b hb
/-- A row that is filled. -/
theorem fill_done {w : World} {g n m : Nat} {e : TypeId} {cur : Array Value} {ds : List D} {F : List Nat} {base : Nat} (hc : w.heap[g]? = some (.cells cur e (0, 0))) (hs : cur.size = n * m) (hn : ds.length = n) (hn2 : n ≤ 9223372036854775807)
    (hr : RdAll w ds (cur.toList.take (n * m)) F) (hF : Owned w base F) (hg : base ≤ g) (hgF : ∀ x ∈ F, x ≠ g) : ∃ G, Rd w (.list ds) [.slice (some ⟨g, 0, none⟩) n n] G ∧ Owned w base G := by
  subst hn
  by_cases hd : ds = []
  · subst hd
    exact ⟨[], Rd.nil_mk hn2, Owned.nil _ _⟩
  · refine ⟨g :: F, Rd.list_mk hd (Nat.le_refl _) hn2 (Array.getElem?_eq_some_iff.1 hc).1 (fun j v hj => ?_) hr, List.nodup_cons.2 ⟨fun h => hgF g h rfl, hF.1⟩, fun b hm => ?_⟩
    · have hj' : j < ds.length * m := by have := (List.getElem?_eq_some_iff.1 hj).1; simp at this; omega
      rw [List.getElem?_take_of_lt hj'] at hj
      simp only [World.cell?, hc]
      simpa using hj
    · rcases List.mem_cons.1 hm with rfl | hm
      · exact ⟨hg, cur, e, hc⟩
      · exact hF.2 b hm
end Go.Proofs.Ytejdbmeoaekhcaa
