/- Marks: what the laws' helpers write into a datum, and what they keep. Over whatever program. No condition. -/
import Derived.Test.YtikhofcjkcbpbaaDoorSc
namespace Go.Proofs.YtikhofcjkcbpbaaDoor
open Go.RowKit

/-- The last digit. -/
def dig8 (m : Nat) : UInt8 := UInt8.ofNat (48 + m % 10)
theorem dig8_toNat (m : Nat) : (dig8 m).toNat = 48 + m % 10 := by
  unfold dig8
  rw [UInt8.toNat_ofNat']
  omega
/-- The decimal digits of a number, before a text. -/
def mdig : Nat → Nat → ByteArray → ByteArray
  | 0, _, out => out
  | f + 1, k, out => if k = 0 then out else mdig f (k / 10) (⟨#[dig8 k]⟩ ++ out)
/-- The text of a mark. -/
def mtxt (k : Nat) : ByteArray := if k = 0 then ⟨#[109, 48]⟩ else ⟨#[109]⟩ ++ mdig k k ⟨#[]⟩
theorem mdig_size : ∀ (f k : Nat) (out : ByteArray), (mdig f k out).size ≤ f + out.size
  | 0, _, out => by simp [mdig]
  | f + 1, k, out => by
    unfold mdig
    split
    · omega
    · have := mdig_size f (k / 10) (⟨#[dig8 k]⟩ ++ out)
      rw [ByteArray.size_append] at this
      have h1 : (⟨#[dig8 k]⟩ : ByteArray).size = 1 := rfl
      omega
theorem mtxt_size (k : Nat) : (mtxt k).size ≤ k + 2 := by
  unfold mtxt
  split
  · have : (⟨#[109, 48]⟩ : ByteArray).size = 2 := rfl
    omega
  · have h := mdig_size k k ⟨#[]⟩
    rw [ByteArray.size_append]
    have h1 : (⟨#[109]⟩ : ByteArray).size = 1 := rfl
    have h2 : (⟨#[]⟩ : ByteArray).size = 0 := rfl
    omega

mutual
/-- How many marks a datum takes. -/
def D.num : D → Nat
  | .int _ => 1
  | .bool _ => 1
  | .str _ => 1
  | .list l => D.nums l
  | .struct l => D.nums l
def D.nums : List D → Nat
  | [] => 0
  | d :: l => D.num d + D.nums l
end
mutual
/-- A datum, marked from a number on. -/
def D.mark : Nat → D → D
  | k, .int _ => .int k
  | k, .bool _ => .bool (k % 3 == 0)
  | k, .str _ => .str (mtxt k)
  | k, .list l => .list (D.marks k l)
  | k, .struct l => .struct (D.marks k l)
def D.marks : Nat → List D → List D
  | _, [] => []
  | k, d :: l => D.mark k d :: D.marks (k + D.num d) l
end
mutual
/-- The leaves of a datum: one a cell. -/
def D.flat : D → List D
  | .int n => [.int n]
  | .bool b => [.bool b]
  | .str s => [.str s]
  | .list l => [.list l]
  | .struct l => D.flats l
def D.flats : List D → List D
  | [] => []
  | d :: l => D.flat d ++ D.flats l
end
theorem D.nums_append : ∀ (a b : List D), D.nums (a ++ b) = D.nums a + D.nums b
  | [], b => by simp [D.nums]
  | d :: a, b => by simp [D.nums, D.nums_append a b]; omega
theorem D.marks_append : ∀ (a b : List D) (k : Nat), D.marks k (a ++ b) = D.marks k a ++ D.marks (k + D.nums a) b
  | [], b, k => by simp [D.marks, D.nums]
  | d :: a, b, k => by simp only [List.cons_append, D.marks, D.nums, D.marks_append a b (k + D.num d)]; rw [Nat.add_assoc]
theorem D.marks_length : ∀ (a : List D) (k : Nat), (D.marks k a).length = a.length
  | [], k => rfl
  | d :: a, k => by simp [D.marks, D.marks_length a]
theorem D.marks_get : ∀ (L : List D) (k p : Nat) (d : D), L[p]? = some d → (D.marks k L)[p]? = some (D.mark (k + D.nums (L.take p)) d)
  | [], k, p, d, h => by simp at h
  | x :: L, k, 0, d, h => by simp at h; subst h; simp [D.marks, D.nums]
  | x :: L, k, p + 1, d, h => by
    rw [D.marks, List.getElem?_cons_succ, D.marks_get L (k + D.num x) p d (by simpa using h), List.take_succ_cons, D.nums, Nat.add_assoc]
theorem D.nums_take (L : List D) (p : Nat) (d : D) (h : L[p]? = some d) : D.nums (L.take (p + 1)) = D.nums (L.take p) + D.num d := by
  rw [List.take_add_one, h, D.nums_append]; simp [D.nums]
theorem D.nums_take_le : ∀ (L : List D) (p : Nat), D.nums (L.take p) ≤ D.nums L
  | [], p => by simp
  | x :: L, 0 => by simp [D.nums]
  | x :: L, p + 1 => by have := D.nums_take_le L p; simp [D.nums]; omega
mutual
theorem D.flat_num : ∀ d : D, D.nums (D.flat d) = D.num d
  | .int _ => rfl
  | .bool _ => rfl
  | .str _ => rfl
  | .list l => by simp [D.flat, D.nums]
  | .struct l => by rw [D.flat, D.flats_num l, D.num]
theorem D.flats_num : ∀ l : List D, D.nums (D.flats l) = D.nums l
  | [] => rfl
  | d :: l => by rw [D.flats, D.nums_append, D.flat_num d, D.flats_num l, D.nums]
end
mutual
theorem D.flat_mark : ∀ (d : D) (k : Nat), D.flat (D.mark k d) = D.marks k (D.flat d)
  | .int _, k => by simp [D.mark, D.flat, D.marks]
  | .bool _, k => by simp [D.mark, D.flat, D.marks]
  | .str _, k => by simp [D.mark, D.flat, D.marks]
  | .list l, k => by simp [D.mark, D.flat, D.marks]
  | .struct l, k => by rw [D.mark, D.flat, D.flat, D.flats_mark l k]
theorem D.flats_mark : ∀ (l : List D) (k : Nat), D.flats (D.marks k l) = D.marks k (D.flats l)
  | [], k => by simp [D.marks, D.flats]
  | d :: l, k => by rw [D.marks, D.flats, D.flat_mark d k, D.flats_mark l (k + D.num d), D.flats, D.marks_append, D.flat_num]
end
mutual
theorem D.flat_len : ∀ (d : D), ∀ x ∈ D.flat d, x.len = 1
  | .int _, x, h => by simp [D.flat] at h; subst h; rfl
  | .bool _, x, h => by simp [D.flat] at h; subst h; rfl
  | .str _, x, h => by simp [D.flat] at h; subst h; rfl
  | .list l, x, h => by simp [D.flat] at h; subst h; rfl
  | .struct l, x, h => D.flats_len l x (by rw [D.flat] at h; exact h)
theorem D.flats_len : ∀ (l : List D), ∀ x ∈ D.flats l, x.len = 1
  | [], x, h => by simp [D.flats] at h
  | d :: l, x, h => by
    rw [D.flats] at h
    rcases List.mem_append.1 h with h | h
    · exact D.flat_len d x h
    · exact D.flats_len l x h
end
mutual
theorem D.flat_length : ∀ d : D, (D.flat d).length = D.len d
  | .int _ => rfl
  | .bool _ => rfl
  | .str _ => rfl
  | .list _ => rfl
  | .struct l => by rw [D.flat, D.flats_length l, D.len]
theorem D.flats_length : ∀ l : List D, (D.flats l).length = D.lens l
  | [] => rfl
  | d :: l => by rw [D.flats, List.length_append, D.flat_length d, D.flats_length l, D.lens]
end
theorem D.flats_get {m : Nat} : ∀ (l : List D) (j i : Nat) (d x : D), (∀ y ∈ l, y.len = m) → l[j]? = some d → (D.flat d)[i]? = some x → (D.flats l)[j * m + i]? = some x
  | [], j, i, d, x, _, h, _ => by simp at h
  | y :: l, 0, i, d, x, hm, h, hx => by
    simp at h; subst h
    rw [D.flats, Nat.zero_mul, Nat.zero_add, List.getElem?_append_left (List.getElem?_eq_some_iff.1 hx).1]; exact hx
  | y :: l, j + 1, i, d, x, hm, h, hx => by
    have e := D.flats_get l j i d x (fun z hz => hm z (by simp [hz])) (by simpa using h) hx
    have hl : (D.flat y).length = m := by rw [D.flat_length]; exact hm y (by simp)
    rw [D.flats, List.getElem?_append_right (by rw [hl, Nat.succ_mul]; omega), hl, show (j + 1) * m + i - m = j * m + i by rw [Nat.succ_mul]; omega]; exact e

theorem RdAll.append_inv {w : World} : ∀ (ds es : List D) {xs : List Value} {F : List Nat}, RdAll w (ds ++ es) xs F → ∃ x1 x2 F1 F2, xs = x1 ++ x2 ∧ F = F1 ++ F2 ∧ RdAll w ds x1 F1 ∧ RdAll w es x2 F2
  | [], es, xs, F, h => ⟨[], xs, [], F, rfl, rfl, RdAll.nil, h⟩
  | d :: ds, es, xs, F, h => by
    obtain ⟨c1, c2, F1, F2, rfl, rfl, h1, h2⟩ := RdAll.cons_inv h
    obtain ⟨x1, x2, G1, G2, rfl, rfl, k1, k2⟩ := RdAll.append_inv ds es h2
    exact ⟨c1 ++ x1, x2, F1 ++ G1, G2, by simp, by simp, RdAll.cons h1 k1, k2⟩
theorem RdAll.one_inv {w : World} {d : D} {cs : List Value} {F : List Nat} (h : RdAll w [d] cs F) : Rd w d cs F := by
  obtain ⟨c1, c2, F1, F2, rfl, rfl, h1, h2⟩ := RdAll.cons_inv h
  obtain ⟨rfl, rfl⟩ := RdAll.nil_inv h2
  simpa using h1
mutual
theorem Rd.flat {w : World} : ∀ (d : D) (cs : List Value) (F : List Nat), Rd w d cs F → RdAll w (D.flat d) cs F
  | .int _, _, _, h => RdAll.one h
  | .bool _, _, _, h => RdAll.one h
  | .str _, _, _, h => RdAll.one h
  | .list _, _, _, h => RdAll.one h
  | .struct l, cs, F, h => RdAll.flats l cs F h.struct_inv
theorem RdAll.flats {w : World} : ∀ (l : List D) (cs : List Value) (F : List Nat), RdAll w l cs F → RdAll w (D.flats l) cs F
  | [], cs, F, h => h
  | d :: l, cs, F, h => by
    obtain ⟨c1, c2, F1, F2, rfl, rfl, h1, h2⟩ := RdAll.cons_inv h
    exact (Rd.flat d c1 F1 h1).append (RdAll.flats l c2 F2 h2)
end
mutual
theorem Rd.unflat {w : World} : ∀ (d : D) (cs : List Value) (F : List Nat), RdAll w (D.flat d) cs F → Rd w d cs F
  | .int _, _, _, h => RdAll.one_inv h
  | .bool _, _, _, h => RdAll.one_inv h
  | .str _, _, _, h => RdAll.one_inv h
  | .list _, _, _, h => RdAll.one_inv h
  | .struct l, cs, F, h => Rd.struct_mk (RdAll.unflats l cs F h)
theorem RdAll.unflats {w : World} : ∀ (l : List D) (cs : List Value) (F : List Nat), RdAll w (D.flats l) cs F → RdAll w l cs F
  | [], cs, F, h => h
  | d :: l, cs, F, h => by
    obtain ⟨x1, x2, F1, F2, rfl, rfl, h1, h2⟩ := RdAll.append_inv (D.flat d) (D.flats l) h
    exact RdAll.cons (Rd.unflat d x1 F1 h1) (RdAll.unflats l x2 F2 h2)
end

/-- The list, its first p leaves marked. -/
def D.upTo (k : Nat) (L : List D) (p : Nat) : List D := D.marks k (L.take p) ++ L.drop p
theorem D.upTo_zero (k : Nat) (L : List D) : D.upTo k L 0 = L := by simp [D.upTo, D.marks]
theorem D.upTo_full (k : Nat) (L : List D) : D.upTo k L L.length = D.marks k L := by simp [D.upTo]
theorem D.upTo_get (k : Nat) (L : List D) (p : Nat) (d : D) (h : L[p]? = some d) : (D.upTo k L p)[p]? = some d := by
  have hp : p < L.length := (List.getElem?_eq_some_iff.1 h).1
  have hl : (D.marks k (L.take p)).length = p := by rw [D.marks_length, List.length_take]; omega
  rw [D.upTo, List.getElem?_append_right (by omega), hl, Nat.sub_self, List.getElem?_drop]; simpa using h
theorem D.upTo_succ (k : Nat) (L : List D) (p : Nat) (d : D) (h : L[p]? = some d) : D.upTo k L (p + 1) = (D.upTo k L p).set p (D.mark (k + D.nums (L.take p)) d) := by
  have hp : p < L.length := (List.getElem?_eq_some_iff.1 h).1
  have hl : (D.marks k (L.take p)).length = p := by rw [D.marks_length, List.length_take]; omega
  have hd : L.drop p = d :: L.drop (p + 1) := by rw [List.drop_eq_getElem_cons hp, (List.getElem?_eq_some_iff.1 h).2]
  rw [D.upTo, D.upTo, List.take_add_one, h, D.marks_append, hd, List.set_append_right _ _ (by omega), hl, Nat.sub_self]
  simp [D.marks]
theorem D.mark_len : ∀ (d : D) (k : Nat), d.len = 1 → (∀ l, d ≠ .struct l) → (D.mark k d).len = 1
  | .int _, k, _, _ => by simp [D.mark, D.len]
  | .bool _, k, _, _ => by simp [D.mark, D.len]
  | .str _, k, _, _ => by simp [D.mark, D.len]
  | .list _, k, _, _ => by simp [D.mark, D.len]
  | .struct l, k, _, h => absurd rfl (h l)

theorem RdAll.splits {w : World} : ∀ (L : List D) (p : Nat) (d : D) {xs : List Value} {F : List Nat}, RdAll w L xs F → (∀ x ∈ L, x.len = 1) → L[p]? = some d →
    ∃ v F1 F2 F3, xs[p]? = some v ∧ F = F1 ++ (F2 ++ F3) ∧ Rd w d [v] F2 ∧ ∀ w' d' v', (∀ x ∈ F1, w'.heap[x]? = w.heap[x]?) → (∀ x ∈ F3, w'.heap[x]? = w.heap[x]?) → Rd w' d' [v'] F2 → RdAll w' (L.set p d') (xs.set p v') F
  | [], p, d, xs, F, _, _, h => by simp at h
  | y :: L, p, d, xs, F, hr, hl, h => by
    obtain ⟨c1, c2, F1, F2, rfl, rfl, h1, h2⟩ := RdAll.cons_inv hr
    have e1 : c1.length = 1 := by rw [h1.length]; exact hl y (by simp)
    obtain ⟨v, rfl⟩ : ∃ v, c1 = [v] := List.length_eq_one_iff.1 e1
    rcases p with _ | p
    · simp at h; subst h
      refine ⟨v, [], F1, F2, rfl, rfl, h1, fun w' d' v' _ k2 k3 => ?_⟩
      simpa using RdAll.cons k3 (h2.keep k2)
    · obtain ⟨v2, G1, G2, G3, k1, rfl, k2, k3⟩ := RdAll.splits L p d h2 (fun x hx => hl x (by simp [hx])) (by simpa using h)
      refine ⟨v2, F1 ++ G1, G2, G3, by simpa using k1, by simp, k2, fun w' d' v' m1 m2 m3 => ?_⟩
      have := k3 w' d' v' (fun x hx => m1 x (by simp [hx])) m2 m3
      have t := RdAll.cons (h1.keep fun x hx => m1 x (by simp [hx])) this
      simpa using t

/-- What a marking keeps: every block but these, and these stay rows. -/
def Mk (F : List Nat) (w w' : World) : Prop := w'.os = w.os ∧ w'.tape = w.tape ∧ w'.output = w.output ∧ w.heap.size ≤ w'.heap.size ∧ (∀ b, b < w.heap.size → b ∉ F → w'.heap[b]? = w.heap[b]?) ∧
  (∀ b cur e, b ∈ F → w.heap[b]? = some (.cells cur e (0, 0)) → ∃ cur', w'.heap[b]? = some (.cells cur' e (0, 0)))
theorem Mk.of_below {F : List Nat} {w w' : World} (h : Below w.heap.size w w') : Mk F w w' :=
  ⟨h.os, h.tape, h.output, h.size, fun b hb _ => h.block b hb, fun b cur e _ hc => ⟨cur, by rw [h.block b (Array.getElem?_eq_some_iff.1 hc).1]; exact hc⟩⟩
theorem Mk.refl (F : List Nat) (w : World) : Mk F w w := Mk.of_below (Below.refl _ _)
theorem Mk.trans {F : List Nat} {a b c : World} (h : Mk F a b) (k : Mk F b c) : Mk F a c :=
  ⟨k.1.trans h.1, k.2.1.trans h.2.1, k.2.2.1.trans h.2.2.1, Nat.le_trans h.2.2.2.1 k.2.2.2.1, fun x hx hn => (k.2.2.2.2.1 x (Nat.lt_of_lt_of_le hx h.2.2.2.1) hn).trans (h.2.2.2.2.1 x hx hn),
    fun x cur e hx hc => by obtain ⟨c2, h2⟩ := h.2.2.2.2.2 x cur e hx hc; exact k.2.2.2.2.2 x c2 e hx h2⟩
theorem Mk.mono {F G : List Nat} {a b : World} (h : Mk G a b) (hs : ∀ x ∈ G, x ∈ F) : Mk F a b :=
  ⟨h.1, h.2.1, h.2.2.1, h.2.2.2.1, fun x hx hn => h.2.2.2.2.1 x hx fun hg => hn (hs x hg), fun x cur e hx hc => by
    by_cases hg : x ∈ G
    · exact h.2.2.2.2.2 x cur e hg hc
    · exact ⟨cur, by rw [h.2.2.2.2.1 x (Array.getElem?_eq_some_iff.1 hc).1 hg]; exact hc⟩⟩
theorem Mk.set {F : List Nat} {w : World} {b o : Nat} (v : Value) (hb : b ∈ F) : Mk F w (w.setCell ⟨b, o, none⟩ v) :=
  ⟨rfl, rfl, rfl, by simp [World.setCell], fun x _ hn => Below.heap_setCell w ⟨b, o, none⟩ v x (fun e => hn (by subst e; exact hb)), fun x cur e hx hc => by
    by_cases he : x = b
    · subst he; exact ⟨_, heap_setCell_at w x o v hc⟩
    · exact ⟨cur, by rw [Below.heap_setCell w ⟨b, o, none⟩ v x he]; exact hc⟩⟩
theorem Mk.below {F : List Nat} {B : Nat} {a w w' : World} (h : Below B a w) (k : Mk F w w') (hF : ∀ x ∈ F, B ≤ x) (hB : B ≤ w.heap.size) : Below B a w' :=
  ⟨k.1.trans h.os, k.2.1.trans h.tape, k.2.2.1.trans h.output, Nat.le_trans h.size k.2.2.2.1, fun x hx => (k.2.2.2.2.1 x (Nat.lt_of_lt_of_le hx hB) fun hm => by have := hF x hm; omega).trans (h.block x hx)⟩
theorem Mk.rd {F : List Nat} {w w' : World} {d : D} {cs : List Value} {G : List Nat} (k : Mk F w w') (h : Rd w d cs G) (hd : ∀ x ∈ G, x ∉ F) : Rd w' d cs G := h.keep fun x hx => k.2.2.2.2.1 x (h.lt x hx) (hd x hx)
theorem Mk.own {F : List Nat} {w w' : World} {base : Nat} {G : List Nat} (k : Mk F w w') (h : Owned w base G) : Owned w' base G :=
  ⟨h.1, fun b hb => ⟨(h.2 b hb).1, by
    obtain ⟨cur, e, hc⟩ := (h.2 b hb).2
    by_cases hf : b ∈ F
    · obtain ⟨c2, h2⟩ := k.2.2.2.2.2 b cur e hf hc; exact ⟨c2, e, h2⟩
    · exact ⟨cur, e, by rw [k.2.2.2.2.1 b (Array.getElem?_eq_some_iff.1 hc).1 hf]; exact hc⟩⟩⟩

theorem set_same {α : Type} : ∀ (l : List α) (p : Nat) (v : α), l[p]? = some v → l.set p v = l
  | [], p, v, h => by simp at h
  | x :: l, 0, v, h => by simp at h; subst h; rfl
  | x :: l, p + 1, v, h => by rw [List.set_cons_succ, set_same l p v (by simpa using h)]
theorem cell_set_ne {w : World} {b q p : Nat} {v : Value} (h : q ≠ p) : (w.setCell ⟨b, q, none⟩ v).cell? ⟨b, p, none⟩ = w.cell? ⟨b, p, none⟩ := by
  cases hb : w.heap[b]? with
  | none => simp [World.cell?, World.setCell, Array.getElem?_modify, hb]
  | some x =>
    cases x <;> simp [World.cell?, World.setCell, Array.getElem?_modify, hb, Array.getElem?_setIfInBounds_ne h]
/-- A row of leaves, the call's own, as it is now. -/
def RowSt (w : World) (b o : Nat) (L : List D) (F : List Nat) : Prop := ∃ (xs : List Value), Cells w b o xs ∧ RdAll w L xs F ∧ Owned w 0 (b :: F)
theorem RowSt.below {w w' : World} {b o : Nat} {L : List D} {F : List Nat} (h : RowSt w b o L F) (hb : Below w.heap.size w w') : RowSt w' b o L F := by
  obtain ⟨xs, h1, h2, h3⟩ := h
  have hl := h3.lt
  exact ⟨xs, h1.keep (hb.block b (hl b (by simp))), h2.below hb, h3.keep fun x hx => hb.block x (hl x hx)⟩
theorem RowSt.scalar {w : World} {b o p : Nat} {L : List D} {F : List Nat} {d : D} (h : RowSt w b o L F) (hl : ∀ x ∈ L, x.len = 1) (hp : L[p]? = some d) (hs : ∀ w v G, Rd w d [v] G → G = []) :
    (∃ v, w.cell? ⟨b, o + p, none⟩ = some v ∧ Rd w d [v] []) ∧ w.frozen? ⟨b, o + p, none⟩ = false ∧ ∀ d' v', (∀ w, Rd w d' [v'] []) → RowSt (w.setCell ⟨b, o + p, none⟩ v') b o (L.set p d') F := by
  obtain ⟨xs, h1, h2, h3⟩ := h
  obtain ⟨v, F1, F2, F3, k1, rfl, k2, k3⟩ := RdAll.splits L p d h2 hl hp
  obtain rfl := hs _ _ _ k2
  obtain ⟨cur, e, hc⟩ := (h3.2 b (by simp)).2
  have hcell := h1 p v k1
  refine ⟨⟨v, hcell, k2⟩, by simp [World.frozen?, hc], fun d' v' hd => ?_⟩
  have hne : ∀ x ∈ F1 ++ ([] ++ F3), x ≠ b := fun x hx e => by subst e; exact (List.nodup_cons.1 h3.1).1 hx
  have hk : ∀ x, x ≠ b → (w.setCell ⟨b, o + p, none⟩ v').heap[x]? = w.heap[x]? := fun x hx => Below.heap_setCell w ⟨b, o + p, none⟩ v' x hx
  refine ⟨xs.set p v', fun j u hj => ?_, k3 _ d' v' (fun x hx => hk x (hne x (by simp [hx]))) (fun x hx => hk x (hne x (by simp [hx]))) (hd _), ?_⟩
  · have hb2 := heap_setCell_at w b (o + p) v' hc
    by_cases hjp : j = p
    · subst hjp
      have hlt : j < xs.length := (List.getElem?_eq_some_iff.1 k1).1
      rw [List.getElem?_set_self hlt] at hj
      obtain rfl := Option.some.inj hj
      simp only [World.cell?, hb2]
      have hsz : o + j < cur.size := by
        simp only [World.cell?, hc] at hcell
        exact (Array.getElem?_eq_some_iff.1 (by simpa using hcell)).1
      simp [hsz]
    · rw [List.getElem?_set_ne (by omega)] at hj
      have := h1 j u hj
      simp only [World.cell?, hc] at this
      simp only [World.cell?, hb2]
      rw [Array.getElem?_setIfInBounds_ne (by omega)]
      simpa using this
  · refine ⟨h3.1, fun x hx => ⟨Nat.zero_le _, ?_⟩⟩
    by_cases hxb : x = b
    · subst hxb; exact ⟨_, e, heap_setCell_at w x (o + p) v' hc⟩
    · rw [hk x hxb]; exact (h3.2 x hx).2
theorem RowSt.list {w : World} {b o p : Nat} {L : List D} {F : List Nat} {ds : List D} (h : RowSt w b o L F) (hl : ∀ x ∈ L, x.len = 1) (hp : L[p]? = some (.list ds)) :
    ∃ v G, w.cell? ⟨b, o + p, none⟩ = some v ∧ Rd w (.list ds) [v] G ∧ Owned w 0 G ∧ (∀ x ∈ G, x ∈ F) ∧ ∀ w' ds', Mk G w w' → Rd w' (.list ds') [v] G → RowSt w' b o (L.set p (.list ds')) F := by
  obtain ⟨xs, h1, h2, h3⟩ := h
  obtain ⟨v, F1, F2, F3, k1, rfl, k2, k3⟩ := RdAll.splits L p _ h2 hl hp
  have hnd := List.nodup_cons.1 h3.1
  have hn2 := List.nodup_append.1 hnd.2
  have hn3 := List.nodup_append.1 hn2.2.1
  have hlt := h3.lt
  refine ⟨v, F2, h1 p v k1, k2, ⟨hn3.1, fun x hx => h3.2 x (by simp [hx])⟩, fun x hx => by simp [hx], fun w' ds' hm hr => ?_⟩
  have hb : b ∉ F2 := fun hx => hnd.1 (by simp [hx])
  have hkb := hm.2.2.2.2.1 b (hlt b (by simp)) hb
  refine ⟨xs, h1.keep hkb, ?_, hm.own h3⟩
  have := k3 w' (.list ds') v (fun x hx => hm.2.2.2.2.1 x (hlt x (by simp [hx])) fun hg => hn2.2.2 x hx x (by simp [hg]) rfl) (fun x hx => hm.2.2.2.2.1 x (hlt x (by simp [hx])) fun hg => hn3.2.2 x hg x hx rfl) hr
  rwa [set_same xs p v k1] at this

theorem Boxes.mk {F : List Nat} {w w' : World} {l : List (Nat × List Value)} (h : Boxes w l) (m : Mk F w w') (hd : ∀ p ∈ l, p.1 ∉ F) : Boxes w' l := fun i b cs hi => by
  have h0 := h i b cs hi
  refine ⟨Nat.lt_of_lt_of_le h0.1 m.2.2.2.1, fun j v hj => ?_⟩
  rw [← h0.2 j v hj]
  exact World.cell?_of_block (w := w) (m.2.2.2.2.1 b h0.1 (hd (b, cs) (List.mem_of_getElem? hi)))
/-- The numbers from k on. -/
def iotaI : Nat → Nat → List Int
  | _, 0 => []
  | k, n + 1 => (k : Int) :: iotaI (k + 1) n
theorem iotaI_length : ∀ (n k : Nat), (iotaI k n).length = n
  | 0, _ => rfl
  | n + 1, k => by simp [iotaI, iotaI_length n]
theorem iotaI_get : ∀ (n k j : Nat), j < n → (iotaI k n)[j]? = some ((k + j : Nat) : Int)
  | 0, k, j, h => absurd h (by omega)
  | n + 1, k, 0, _ => by simp [iotaI]
  | n + 1, k, j + 1, h => by rw [iotaI, List.getElem?_cons_succ, iotaI_get n (k + 1) j (by omega)]; congr 2; omega
theorem marks_In : ∀ (L : List Int) (k : Nat), D.marks k (In.ds L) = In.ds (iotaI k L.length)
  | [], _ => rfl
  | x :: L, k => by simp only [In.ds, In.d, D.marks, D.mark, D.num, List.length_cons, iotaI]; rw [marks_In L (k + 1)]
theorem nums_In : ∀ (L : List Int), D.nums (In.ds L) = L.length
  | [] => rfl
  | x :: L => by simp only [In.ds, In.d, D.nums, D.num, List.length_cons]; rw [nums_In L]; omega
theorem nums_Sr : ∀ (L : List ByteArray), D.nums (Sr.ds L) = L.length
  | [] => rfl
  | x :: L => by simp only [Sr.ds, Sr.d, D.nums, D.num, List.length_cons]; rw [nums_Sr L]; omega
theorem Owned.below {w w' : World} {base : Nat} {F : List Nat} (h : Owned w base F) (hb : Below w.heap.size w w') : Owned w' base F := h.keep fun x hx => hb.block x (h.lt x hx)
/-- A leaf: no struct. -/
def D.leaf : D → Prop
  | .struct _ => False
  | _ => True
theorem D.leaf_len {d : D} (h : D.leaf d) : d.len = 1 := by cases d <;> first | rfl | exact absurd h (by simp [D.leaf])
theorem D.leaf_mark {d : D} (k : Nat) (h : D.leaf d) : D.leaf (D.mark k d) := by cases d <;> simp [D.mark, D.leaf] at *
mutual
theorem D.flat_leaf : ∀ (d : D), ∀ x ∈ D.flat d, D.leaf x
  | .int _, x, h => by simp [D.flat] at h; subst h; trivial
  | .bool _, x, h => by simp [D.flat] at h; subst h; trivial
  | .str _, x, h => by simp [D.flat] at h; subst h; trivial
  | .list l, x, h => by simp [D.flat] at h; subst h; trivial
  | .struct l, x, h => D.flats_leaf l x (by rw [D.flat] at h; exact h)
theorem D.flats_leaf : ∀ (l : List D), ∀ x ∈ D.flats l, D.leaf x
  | [], x, h => by simp [D.flats] at h
  | d :: l, x, h => by
    rw [D.flats] at h
    rcases List.mem_append.1 h with h | h
    · exact D.flat_leaf d x h
    · exact D.flats_leaf l x h
end
theorem D.marks_leaf : ∀ (L : List D) (k : Nat), (∀ x ∈ L, D.leaf x) → ∀ x ∈ D.marks k L, D.leaf x
  | [], k, _, x, h => by simp [D.marks] at h
  | d :: L, k, hl, x, h => by
    rw [D.marks] at h
    rcases List.mem_cons.1 h with rfl | h
    · exact D.leaf_mark k (hl d (by simp))
    · exact D.marks_leaf L _ (fun y hy => hl y (by simp [hy])) x h
theorem D.upTo_len (k : Nat) (L : List D) (p : Nat) (hl : ∀ x ∈ L, D.leaf x) : ∀ x ∈ D.upTo k L p, x.len = 1 := by
  intro x hx
  rcases List.mem_append.1 hx with hx | hx
  · exact D.leaf_len (D.marks_leaf _ _ (fun y hy => hl y (List.mem_of_mem_take hy)) x hx)
  · exact D.leaf_len (hl x (List.mem_of_mem_drop hx))
/-- The row, its first p leaves marked. -/
def RowMk (k : Nat) (L : List D) (F : List Nat) (b o p : Nat) (w : World) : Prop := RowSt w b o (D.upTo k L p) F
theorem RowMk.start {k : Nat} {ds : List D} {F : List Nat} {b o : Nat} {w : World} {xs : List Value} (hx : Cells w b o xs) (hr : RdAll w ds xs F) (ho : Owned w 0 (b :: F)) : RowMk k (D.flats ds) F b o 0 w := by
  unfold RowMk
  rw [D.upTo_zero]
  exact ⟨xs, hx, RdAll.flats ds xs F hr, ho⟩
theorem RowMk.below {k : Nat} {L : List D} {F : List Nat} {b o p : Nat} {w w' : World} (h : RowMk k L F b o p w) (hb : Below w.heap.size w w') : RowMk k L F b o p w' := RowSt.below h hb
/-- A scalar that is to be marked next: its cell, and what a store there makes. -/
theorem RowMk.scalar {k : Nat} {L : List D} {F : List Nat} {b o p : Nat} {w : World} {d : D} (h : RowMk k L F b o p w) (hl : ∀ x ∈ L, D.leaf x) (hp : L[p]? = some d) (hs : ∀ w v G, Rd w d [v] G → G = []) :
    (∃ v, w.cell? ⟨b, o + p, none⟩ = some v) ∧ w.frozen? ⟨b, o + p, none⟩ = false ∧ ∀ v', (∀ w, Rd w (D.mark (k + D.nums (L.take p)) d) [v'] []) → RowMk k L F b o (p + 1) (w.setCell ⟨b, o + p, none⟩ v') := by
  obtain ⟨⟨v, h1, _⟩, h2, h3⟩ := RowSt.scalar h (D.upTo_len k L p hl) (D.upTo_get k L p d hp) hs
  refine ⟨⟨v, h1⟩, h2, fun v' hv => ?_⟩
  have := h3 _ v' hv
  unfold RowMk
  rwa [D.upTo_succ k L p d hp]
/-- A slice that is to be marked next. -/
theorem RowMk.list {k : Nat} {L : List D} {F : List Nat} {b o p : Nat} {w : World} {ds : List D} (h : RowMk k L F b o p w) (hl : ∀ x ∈ L, D.leaf x) (hp : L[p]? = some (.list ds)) :
    ∃ v G, w.cell? ⟨b, o + p, none⟩ = some v ∧ Rd w (.list ds) [v] G ∧ Owned w 0 G ∧ (∀ x ∈ G, x ∈ F) ∧ ∀ w', Mk G w w' → Rd w' (.list (D.marks (k + D.nums (L.take p)) ds)) [v] G → RowMk k L F b o (p + 1) w' := by
  obtain ⟨v, G, h1, h2, h3, h4, h5⟩ := RowSt.list h (D.upTo_len k L p hl) (D.upTo_get k L p _ hp)
  refine ⟨v, G, h1, h2, h3, h4, fun w' hm hr => ?_⟩
  have := h5 w' _ hm hr
  unfold RowMk
  rw [D.upTo_succ k L p _ hp]
  simpa [D.mark] using this
theorem D.upTo_later (k : Nat) (L : List D) (p q : Nat) (d : D) (hq : p ≤ q) (h : L[q]? = some d) : (D.upTo k L p)[q]? = some d := by
  have hp : q < L.length := (List.getElem?_eq_some_iff.1 h).1
  have hl : (D.marks k (L.take p)).length = p := by rw [D.marks_length, List.length_take]; omega
  rw [D.upTo, List.getElem?_append_right (by omega), hl, List.getElem?_drop, show p + (q - p) = q by omega]; exact h
/-- A leaf that is not marked yet. -/
theorem RowMk.peek {k : Nat} {L : List D} {F : List Nat} {b o p : Nat} {w : World} {d : D} (h : RowMk k L F b o p w) (hl : ∀ x ∈ L, D.leaf x) (q : Nat) (hq : p ≤ q) (hp : L[q]? = some d) :
    ∃ v G, w.cell? ⟨b, o + q, none⟩ = some v ∧ w.frozen? ⟨b, o + q, none⟩ = false ∧ Rd w d [v] G := by
  obtain ⟨xs, h1, h2, h3⟩ := h
  obtain ⟨v, F1, F2, F3, k1, rfl, k2, -⟩ := RdAll.splits (D.upTo k L p) q d h2 (D.upTo_len k L p hl) (D.upTo_later k L p q d hq hp)
  obtain ⟨cur, e, hc⟩ := (h3.2 b (by simp)).2
  exact ⟨v, F2, h1 q v k1, by simp [World.frozen?, hc], k2⟩
/-- The whole row is marked. -/
theorem RowMk.done {k : Nat} {ds : List D} {F : List Nat} {b o p n cap : Nat} {w : World} (h : RowMk k (D.flats ds) F b o p w) (hp : p = (D.flats ds).length) (hn : n = ds.length) (hne : ds ≠ []) (hl : n ≤ cap) (hc : cap ≤ 9223372036854775807) : Rd w (.list (D.marks k ds)) [.slice (some ⟨b, o, none⟩) n cap] (b :: F) := by
  subst hp hn
  obtain ⟨xs, h1, h2, h3⟩ := h
  rw [D.upTo_full, ← D.flats_mark] at h2
  have hne2 : D.marks k ds ≠ [] := fun e => hne (List.length_eq_zero_iff.1 (by rw [← D.marks_length ds k, e]; rfl))
  have := Rd.list_mk (cap := cap) hne2 (by rw [D.marks_length]; exact hl) hc (h3.lt b (by simp)) h1 (RdAll.unflats _ _ _ h2)
  rwa [D.marks_length] at this
/-- What a marking of a slice gives. -/
def MkPost (w : World) (v : Value) (F : List Nat) (k : Nat) (ds : List D) (e : Ending) (w' : World) : Prop := e = .returned (.int .i64 (k + D.nums ds : Nat)) ∧ Rd w' (.list (D.marks k ds)) [v] F ∧ Mk F w w'
theorem Rd.int_sc {n : Int} : ∀ w v G, Rd w (.int n) [v] G → G = [] := fun _ _ _ h => h.int_inv.2.1
theorem Rd.str_sc {s : ByteArray} : ∀ w v G, Rd w (.str s) [v] G → G = [] := fun _ _ _ h => h.str_inv.2.1
theorem Rd.bool_sc {b : Bool} : ∀ w v G, Rd w (.bool b) [v] G → G = [] := fun _ _ _ h => h.bool_inv.2
end Go.Proofs.YtikhofcjkcbpbaaDoor
