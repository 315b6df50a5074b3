/- Merged texts: Mark MkTxt MkSc MkCo MkVCo HdCo HdNe. No condition. -/
import Derived.Test.YtejdbmeoaekhcaaSc
import Derived.Lib.QuietBelow
import Derived.Laws.IdiomStrings
import Derived.Test.YtejdbmeoaekhcaaSzCo
import Derived.Test.YtejdbmeoaekhcaaSzBk
import Derived.Test.YtejdbmeoaekhcaaEqSc
/- was: Mark -/
namespace Go.Proofs.Ytejdbmeoaekhcaa
open Go.RowKit

/-- The last digit. -/
def dig8 (m : Nat) : UInt8 := UInt8.ofNat (48 + m % 10)
theorem dig8_toNat (m : Nat) : (dig8 m).toNat = 48 + m % 10 := by
  unfold dig8
  rw [UInt8.toNat_ofNat']
  omega
/-- The decimal digits of a number, before a text. -/
def mdig : Nat → Nat → ByteArray → ByteArray
  | 0, _, out => out
  | f + 1, k, out => if k = 0 then out else mdig f (k / 10) (⟨#[dig8 k]⟩ ++ out)
/-- The text of a mark. -/
def mtxt (k : Nat) : ByteArray := if k = 0 then ⟨#[109, 48]⟩ else ⟨#[109]⟩ ++ mdig k k ⟨#[]⟩
theorem mdig_size : ∀ (f k : Nat) (out : ByteArray), (mdig f k out).size ≤ f + out.size
  | 0, _, out => by simp [mdig]
  | f + 1, k, out => by
    unfold mdig
    split
    · omega
    · have := mdig_size f (k / 10) (⟨#[dig8 k]⟩ ++ out)
      rw [ByteArray.size_append] at this
      have h1 : (⟨#[dig8 k]⟩ : ByteArray).size = 1 := rfl
      omega
theorem mtxt_size (k : Nat) : (mtxt k).size ≤ k + 2 := by
  unfold mtxt
  split
  · have : (⟨#[109, 48]⟩ : ByteArray).size = 2 := rfl
    omega
  · have h := mdig_size k k ⟨#[]⟩
    rw [ByteArray.size_append]
    have h1 : (⟨#[109]⟩ : ByteArray).size = 1 := rfl
    have h2 : (⟨#[]⟩ : ByteArray).size = 0 := rfl
    omega

mutual
/-- How many marks a datum takes. -/
def D.num : D → Nat
  | .int _ => 1
  | .bool _ => 1
  | .str _ => 1
  | .list l => D.nums l
  | .struct l => D.nums l
def D.nums : List D → Nat
  | [] => 0
  | d :: l => D.num d + D.nums l
end
mutual
/-- A datum, marked from a number on. -/
def D.mark : Nat → D → D
  | k, .int _ => .int k
  | k, .bool _ => .bool (k % 3 == 0)
  | k, .str _ => .str (mtxt k)
  | k, .list l => .list (D.marks k l)
  | k, .struct l => .struct (D.marks k l)
def D.marks : Nat → List D → List D
  | _, [] => []
  | k, d :: l => D.mark k d :: D.marks (k + D.num d) l
end
mutual
/-- The leaves of a datum: one a cell. -/
def D.flat : D → List D
  | .int n => [.int n]
  | .bool b => [.bool b]
  | .str s => [.str s]
  | .list l => [.list l]
  | .struct l => D.flats l
def D.flats : List D → List D
  | [] => []
  | d :: l => D.flat d ++ D.flats l
end
theorem D.nums_append : ∀ (a b : List D), D.nums (a ++ b) = D.nums a + D.nums b
  | [], b => by simp [D.nums]
  | d :: a, b => by simp [D.nums, D.nums_append a b]; omega
theorem D.marks_append : ∀ (a b : List D) (k : Nat), D.marks k (a ++ b) = D.marks k a ++ D.marks (k + D.nums a) b
  | [], b, k => by simp [D.marks, D.nums]
  | d :: a, b, k => by simp only [List.cons_append, D.marks, D.nums, D.marks_append a b (k + D.num d)]; rw [Nat.add_assoc]
theorem D.marks_length : ∀ (a : List D) (k : Nat), (D.marks k a).length = a.length
  | [], k => rfl
  | d :: a, k => by simp [D.marks, D.marks_length a]
theorem D.marks_get : ∀ (L : List D) (k p : Nat) (d : D), L[p]? = some d → (D.marks k L)[p]? = some (D.mark (k + D.nums (L.take p)) d)
  | [], k, p, d, h => by simp at h
  | x :: L, k, 0, d, h => by simp at h; subst h; simp [D.marks, D.nums]
  | x :: L, k, p + 1, d, h => by
    rw [D.marks, List.getElem?_cons_succ, D.marks_get L (k + D.num x) p d (by simpa using h), List.take_succ_cons, D.nums, Nat.add_assoc]
theorem D.nums_take (L : List D) (p : Nat) (d : D) (h : L[p]? = some d) : D.nums (L.take (p + 1)) = D.nums (L.take p) + D.num d := by
  rw [List.take_add_one, h, D.nums_append]; simp [D.nums]
theorem D.nums_take_le : ∀ (L : List D) (p : Nat), D.nums (L.take p) ≤ D.nums L
  | [], p => by simp
  | x :: L, 0 => by simp [D.nums]
  | x :: L, p + 1 => by have := D.nums_take_le L p; simp [D.nums]; omega
mutual
theorem D.flat_num : ∀ d : D, D.nums (D.flat d) = D.num d
  | .int _ => rfl
  | .bool _ => rfl
  | .str _ => rfl
  | .list l => by simp [D.flat, D.nums]
  | .struct l => by rw [D.flat, D.flats_num l, D.num]
theorem D.flats_num : ∀ l : List D, D.nums (D.flats l) = D.nums l
  | [] => rfl
  | d :: l => by rw [D.flats, D.nums_append, D.flat_num d, D.flats_num l, D.nums]
end
mutual
theorem D.flat_mark : ∀ (d : D) (k : Nat), D.flat (D.mark k d) = D.marks k (D.flat d)
  | .int _, k => by simp [D.mark, D.flat, D.marks]
  | .bool _, k => by simp [D.mark, D.flat, D.marks]
  | .str _, k => by simp [D.mark, D.flat, D.marks]
  | .list l, k => by simp [D.mark, D.flat, D.marks]
  | .struct l, k => by rw [D.mark, D.flat, D.flat, D.flats_mark l k]
theorem D.flats_mark : ∀ (l : List D) (k : Nat), D.flats (D.marks k l) = D.marks k (D.flats l)
  | [], k => by simp [D.marks, D.flats]
  | d :: l, k => by rw [D.marks, D.flats, D.flat_mark d k, D.flats_mark l (k + D.num d), D.flats, D.marks_append, D.flat_num]
end
mutual
theorem D.flat_len : ∀ (d : D), ∀ x ∈ D.flat d, x.len = 1
  | .int _, x, h => by simp [D.flat] at h; subst h; rfl
  | .bool _, x, h => by simp [D.flat] at h; subst h; rfl
  | .str _, x, h => by simp [D.flat] at h; subst h; rfl
  | .list l, x, h => by simp [D.flat] at h; subst h; rfl
  | .struct l, x, h => D.flats_len l x (by rw [D.flat] at h; exact h)
theorem D.flats_len : ∀ (l : List D), ∀ x ∈ D.flats l, x.len = 1
  | [], x, h => by simp [D.flats] at h
  | d :: l, x, h => by
    rw [D.flats] at h
    rcases List.mem_append.1 h with h | h
    · exact D.flat_len d x h
    · exact D.flats_len l x h
end
mutual
theorem D.flat_length : ∀ d : D, (D.flat d).length = D.len d
  | .int _ => rfl
  | .bool _ => rfl
  | .str _ => rfl
  | .list _ => rfl
  | .struct l => by rw [D.flat, D.flats_length l, D.len]
theorem D.flats_length : ∀ l : List D, (D.flats l).length = D.lens l
  | [] => rfl
  | d :: l => by rw [D.flats, List.length_append, D.flat_length d, D.flats_length l, D.lens]
end
theorem D.flats_get {m : Nat} : ∀ (l : List D) (j i : Nat) (d x : D), (∀ y ∈ l, y.len = m) → l[j]? = some d → (D.flat d)[i]? = some x → (D.flats l)[j * m + i]? = some x
  | [], j, i, d, x, _, h, _ => by simp at h
  | y :: l, 0, i, d, x, hm, h, hx => by
    simp at h; subst h
    rw [D.flats, Nat.zero_mul, Nat.zero_add, List.getElem?_append_left (List.getElem?_eq_some_iff.1 hx).1]; exact hx
  | y :: l, j + 1, i, d, x, hm, h, hx => by
    have e := D.flats_get l j i d x (fun z hz => hm z (by simp [hz])) (by simpa using h) hx
    have hl : (D.flat y).length = m := by rw [D.flat_length]; exact hm y (by simp)
    rw [D.flats, List.getElem?_append_right (by rw [hl, Nat.succ_mul]; omega), hl, show (j + 1) * m + i - m = j * m + i by rw [Nat.succ_mul]; omega]; exact e

theorem RdAll.append_inv {w : World} : ∀ (ds es : List D) {xs : List Value} {F : List Nat}, RdAll w (ds ++ es) xs F → ∃ x1 x2 F1 F2, xs = x1 ++ x2 ∧ F = F1 ++ F2 ∧ RdAll w ds x1 F1 ∧ RdAll w es x2 F2
  | [], es, xs, F, h => ⟨[], xs, [], F, rfl, rfl, RdAll.nil, h⟩
  | d :: ds, es, xs, F, h => by
    obtain ⟨c1, c2, F1, F2, rfl, rfl, h1, h2⟩ := RdAll.cons_inv h
    obtain ⟨x1, x2, G1, G2, rfl, rfl, k1, k2⟩ := RdAll.append_inv ds es h2
    exact ⟨c1 ++ x1, x2, F1 ++ G1, G2, by simp, by simp, RdAll.cons h1 k1, k2⟩
theorem RdAll.one_inv {w : World} {d : D} {cs : List Value} {F : List Nat} (h : RdAll w [d] cs F) : Rd w d cs F := by
  obtain ⟨c1, c2, F1, F2, rfl, rfl, h1, h2⟩ := RdAll.cons_inv h
  obtain ⟨rfl, rfl⟩ := RdAll.nil_inv h2
  simpa using h1
mutual
theorem Rd.flat {w : World} : ∀ (d : D) (cs : List Value) (F : List Nat), Rd w d cs F → RdAll w (D.flat d) cs F
  | .int _, _, _, h => RdAll.one h
  | .bool _, _, _, h => RdAll.one h
  | .str _, _, _, h => RdAll.one h
  | .list _, _, _, h => RdAll.one h
  | .struct l, cs, F, h => RdAll.flats l cs F h.struct_inv
theorem RdAll.flats {w : World} : ∀ (l : List D) (cs : List Value) (F : List Nat), RdAll w l cs F → RdAll w (D.flats l) cs F
  | [], cs, F, h => h
  | d :: l, cs, F, h => by
    obtain ⟨c1, c2, F1, F2, rfl, rfl, h1, h2⟩ := RdAll.cons_inv h
    exact (Rd.flat d c1 F1 h1).append (RdAll.flats l c2 F2 h2)
end
mutual
theorem Rd.unflat {w : World} : ∀ (d : D) (cs : List Value) (F : List Nat), RdAll w (D.flat d) cs F → Rd w d cs F
  | .int _, _, _, h => RdAll.one_inv h
  | .bool _, _, _, h => RdAll.one_inv h
  | .str _, _, _, h => RdAll.one_inv h
  | .list _, _, _, h => RdAll.one_inv h
  | .struct l, cs, F, h => Rd.struct_mk (RdAll.unflats l cs F h)
theorem RdAll.unflats {w : World} : ∀ (l : List D) (cs : List Value) (F : List Nat), RdAll w (D.flats l) cs F → RdAll w l cs F
  | [], cs, F, h => h
  | d :: l, cs, F, h => by
    obtain ⟨x1, x2, F1, F2, rfl, rfl, h1, h2⟩ := RdAll.append_inv (D.flat d) (D.flats l) h
    exact RdAll.cons (Rd.unflat d x1 F1 h1) (RdAll.unflats l x2 F2 h2)
end

/-- The list, its first p leaves marked. -/
def D.upTo (k : Nat) (L : List D) (p : Nat) : List D := D.marks k (L.take p) ++ L.drop p
theorem D.upTo_zero (k : Nat) (L : List D) : D.upTo k L 0 = L := by simp [D.upTo, D.marks]
theorem D.upTo_full (k : Nat) (L : List D) : D.upTo k L L.length = D.marks k L := by simp [D.upTo]
theorem D.upTo_get (k : Nat) (L : List D) (p : Nat) (d : D) (h : L[p]? = some d) : (D.upTo k L p)[p]? = some d := by
  have hp : p < L.length := (List.getElem?_eq_some_iff.1 h).1
  have hl : (D.marks k (L.take p)).length = p := by rw [D.marks_length, List.length_take]; omega
  rw [D.upTo, List.getElem?_append_right (by omega), hl, Nat.sub_self, List.getElem?_drop]; simpa using h
theorem D.upTo_succ (k : Nat) (L : List D) (p : Nat) (d : D) (h : L[p]? = some d) : D.upTo k L (p + 1) = (D.upTo k L p).set p (D.mark (k + D.nums (L.take p)) d) := by
  have hp : p < L.length := (List.getElem?_eq_some_iff.1 h).1
  have hl : (D.marks k (L.take p)).length = p := by rw [D.marks_length, List.length_take]; omega
  have hd : L.drop p = d :: L.drop (p + 1) := by rw [List.drop_eq_getElem_cons hp, (List.getElem?_eq_some_iff.1 h).2]
  rw [D.upTo, D.upTo, List.take_add_one, h, D.marks_append, hd, List.set_append_right _ _ (by omega), hl, Nat.sub_self]
  simp [D.marks]
theorem D.mark_len : ∀ (d : D) (k : Nat), d.len = 1 → (∀ l, d ≠ .struct l) → (D.mark k d).len = 1
  | .int _, k, _, _ => by simp [D.mark, D.len]
  | .bool _, k, _, _ => by simp [D.mark, D.len]
  | .str _, k, _, _ => by simp [D.mark, D.len]
  | .list _, k, _, _ => by simp [D.mark, D.len]
  | .struct l, k, _, h => absurd rfl (h l)

theorem RdAll.splits {w : World} : ∀ (L : List D) (p : Nat) (d : D) {xs : List Value} {F : List Nat}, RdAll w L xs F → (∀ x ∈ L, x.len = 1) → L[p]? = some d →
    ∃ v F1 F2 F3, xs[p]? = some v ∧ F = F1 ++ (F2 ++ F3) ∧ Rd w d [v] F2 ∧ ∀ w' d' v', (∀ x ∈ F1, w'.heap[x]? = w.heap[x]?) → (∀ x ∈ F3, w'.heap[x]? = w.heap[x]?) → Rd w' d' [v'] F2 → RdAll w' (L.set p d') (xs.set p v') F
  | [], p, d, xs, F, _, _, h => by simp at h
  | y :: L, p, d, xs, F, hr, hl, h => by
    obtain ⟨c1, c2, F1, F2, rfl, rfl, h1, h2⟩ := RdAll.cons_inv hr
    have e1 : c1.length = 1 := by rw [h1.length]; exact hl y (by simp)
    obtain ⟨v, rfl⟩ : ∃ v, c1 = [v] := List.length_eq_one_iff.1 e1
    rcases p with _ | p
    · simp at h; subst h
      refine ⟨v, [], F1, F2, rfl, rfl, h1, fun w' d' v' _ k2 k3 => ?_⟩
      simpa using RdAll.cons k3 (h2.keep k2)
    · obtain ⟨v2, G1, G2, G3, k1, rfl, k2, k3⟩ := RdAll.splits L p d h2 (fun x hx => hl x (by simp [hx])) (by simpa using h)
      refine ⟨v2, F1 ++ G1, G2, G3, by simpa using k1, by simp, k2, fun w' d' v' m1 m2 m3 => ?_⟩
      have := k3 w' d' v' (fun x hx => m1 x (by simp [hx])) m2 m3
      have t := RdAll.cons (h1.keep fun x hx => m1 x (by simp [hx])) this
      simpa using t

/-- What a marking keeps: every block but these, and these stay rows. -/
def Mk (F : List Nat) (w w' : World) : Prop := w'.os = w.os ∧ w'.tape = w.tape ∧ w'.output = w.output ∧ w.heap.size ≤ w'.heap.size ∧ (∀ b, b < w.heap.size → b ∉ F → w'.heap[b]? = w.heap[b]?) ∧
  (∀ b cur e, b ∈ F → w.heap[b]? = some (.cells cur e (0, 0)) → ∃ cur', w'.heap[b]? = some (.cells cur' e (0, 0)))
theorem Mk.of_below {F : List Nat} {w w' : World} (h : Below w.heap.size w w') : Mk F w w' :=
  ⟨h.os, h.tape, h.output, h.size, fun b hb _ => h.block b hb, fun b cur e _ hc => ⟨cur, by rw [h.block b (Array.getElem?_eq_some_iff.1 hc).1]; exact hc⟩⟩
theorem Mk.refl (F : List Nat) (w : World) : Mk F w w := Mk.of_below (Below.refl _ _)
theorem Mk.trans {F : List Nat} {a b c : World} (h : Mk F a b) (k : Mk F b c) : Mk F a c :=
  ⟨k.1.trans h.1, k.2.1.trans h.2.1, k.2.2.1.trans h.2.2.1, Nat.le_trans h.2.2.2.1 k.2.2.2.1, fun x hx hn => (k.2.2.2.2.1 x (Nat.lt_of_lt_of_le hx h.2.2.2.1) hn).trans (h.2.2.2.2.1 x hx hn),
    fun x cur e hx hc => by obtain ⟨c2, h2⟩ := h.2.2.2.2.2 x cur e hx hc; exact k.2.2.2.2.2 x c2 e hx h2⟩
theorem Mk.mono {F G : List Nat} {a b : World} (h : Mk G a b) (hs : ∀ x ∈ G, x ∈ F) : Mk F a b :=
  ⟨h.1, h.2.1, h.2.2.1, h.2.2.2.1, fun x hx hn => h.2.2.2.2.1 x hx fun hg => hn (hs x hg), fun x cur e hx hc => by
    by_cases hg : x ∈ G
    · exact h.2.2.2.2.2 x cur e hg hc
    · exact ⟨cur, by rw [h.2.2.2.2.1 x (Array.getElem?_eq_some_iff.1 hc).1 hg]; exact hc⟩⟩
theorem Mk.set {F : List Nat} {w : World} {b o : Nat} (v : Value) (hb : b ∈ F) : Mk F w (w.setCell ⟨b, o, none⟩ v) :=
  ⟨rfl, rfl, rfl, by simp [World.setCell], fun x _ hn => Below.heap_setCell w ⟨b, o, none⟩ v x (fun e => hn (by subst e; exact hb)), fun x cur e hx hc => by
    by_cases he : x = b
    · subst he; exact ⟨_, heap_setCell_at w x o v hc⟩
    · exact ⟨cur, by rw [Below.heap_setCell w ⟨b, o, none⟩ v x he]; exact hc⟩⟩
theorem Mk.below {F : List Nat} {B : Nat} {a w w' : World} (h : Below B a w) (k : Mk F w w') (hF : ∀ x ∈ F, B ≤ x) (hB : B ≤ w.heap.size) : Below B a w' :=
  ⟨k.1.trans h.os, k.2.1.trans h.tape, k.2.2.1.trans h.output, Nat.le_trans h.size k.2.2.2.1, fun x hx => (k.2.2.2.2.1 x (Nat.lt_of_lt_of_le hx hB) fun hm => by have := hF x hm; omega).trans (h.block x hx)⟩
theorem Mk.rd {F : List Nat} {w w' : World} {d : D} {cs : List Value} {G : List Nat} (k : Mk F w w') (h : Rd w d cs G) (hd : ∀ x ∈ G, x ∉ F) : Rd w' d cs G := h.keep fun x hx => k.2.2.2.2.1 x (h.lt x hx) (hd x hx)
theorem Mk.own {F : List Nat} {w w' : World} {base : Nat} {G : List Nat} (k : Mk F w w') (h : Owned w base G) : Owned w' base G :=
  ⟨h.1, fun b hb => ⟨(h.2 b hb).1, by
    obtain ⟨cur, e, hc⟩ := (h.2 b hb).2
    by_cases hf : b ∈ F
    · obtain ⟨c2, h2⟩ := k.2.2.2.2.2 b cur e hf hc; exact ⟨c2, e, h2⟩
    · exact ⟨cur, e, by rw [k.2.2.2.2.1 b (Array.getElem?_eq_some_iff.1 hc).1 hf]; exact hc⟩⟩⟩

theorem set_same {α : Type} : ∀ (l : List α) (p : Nat) (v : α), l[p]? = some v → l.set p v = l
  | [], p, v, h => by simp at h
  | x :: l, 0, v, h => by simp at h; subst h; rfl
  | x :: l, p + 1, v, h => by rw [List.set_cons_succ, set_same l p v (by simpa using h)]
theorem cell_set_ne {w : World} {b q p : Nat} {v : Value} (h : q ≠ p) : (w.setCell ⟨b, q, none⟩ v).cell? ⟨b, p, none⟩ = w.cell? ⟨b, p, none⟩ := by
  cases hb : w.heap[b]? with
  | none => simp [World.cell?, World.setCell, Array.getElem?_modify, hb]
  | some x =>
    cases x <;> simp [World.cell?, World.setCell, Array.getElem?_modify, hb, Array.getElem?_setIfInBounds_ne h]
/-- A row of leaves, the call's own, as it is now. -/
def RowSt (w : World) (b o : Nat) (L : List D) (F : List Nat) : Prop := ∃ (xs : List Value), Cells w b o xs ∧ RdAll w L xs F ∧ Owned w 0 (b :: F)
theorem RowSt.below {w w' : World} {b o : Nat} {L : List D} {F : List Nat} (h : RowSt w b o L F) (hb : Below w.heap.size w w') : RowSt w' b o L F := by
  obtain ⟨xs, h1, h2, h3⟩ := h
  have hl := h3.lt
  exact ⟨xs, h1.keep (hb.block b (hl b (by simp))), h2.below hb, h3.keep fun x hx => hb.block x (hl x hx)⟩
theorem RowSt.scalar {w : World} {b o p : Nat} {L : List D} {F : List Nat} {d : D} (h : RowSt w b o L F) (hl : ∀ x ∈ L, x.len = 1) (hp : L[p]? = some d) (hs : ∀ w v G, Rd w d [v] G → G = []) :
    (∃ v, w.cell? ⟨b, o + p, none⟩ = some v ∧ Rd w d [v] []) ∧ w.frozen? ⟨b, o + p, none⟩ = false ∧ ∀ d' v', (∀ w, Rd w d' [v'] []) → RowSt (w.setCell ⟨b, o + p, none⟩ v') b o (L.set p d') F := by
  obtain ⟨xs, h1, h2, h3⟩ := h
  obtain ⟨v, F1, F2, F3, k1, rfl, k2, k3⟩ := RdAll.splits L p d h2 hl hp
  obtain rfl := hs _ _ _ k2
  obtain ⟨cur, e, hc⟩ := (h3.2 b (by simp)).2
  have hcell := h1 p v k1
  refine ⟨⟨v, hcell, k2⟩, by simp [World.frozen?, hc], fun d' v' hd => ?_⟩
  have hne : ∀ x ∈ F1 ++ ([] ++ F3), x ≠ b := fun x hx e => by subst e; exact (List.nodup_cons.1 h3.1).1 hx
  have hk : ∀ x, x ≠ b → (w.setCell ⟨b, o + p, none⟩ v').heap[x]? = w.heap[x]? := fun x hx => Below.heap_setCell w ⟨b, o + p, none⟩ v' x hx
  refine ⟨xs.set p v', fun j u hj => ?_, k3 _ d' v' (fun x hx => hk x (hne x (by simp [hx]))) (fun x hx => hk x (hne x (by simp [hx]))) (hd _), ?_⟩
  · have hb2 := heap_setCell_at w b (o + p) v' hc
    by_cases hjp : j = p
    · subst hjp
      have hlt : j < xs.length := (List.getElem?_eq_some_iff.1 k1).1
      rw [List.getElem?_set_self hlt] at hj
      obtain rfl := Option.some.inj hj
      simp only [World.cell?, hb2]
      have hsz : o + j < cur.size := by
        simp only [World.cell?, hc] at hcell
        exact (Array.getElem?_eq_some_iff.1 (by simpa using hcell)).1
      simp [hsz]
    · rw [List.getElem?_set_ne (by omega)] at hj
      have := h1 j u hj
      simp only [World.cell?, hc] at this
      simp only [World.cell?, hb2]
      rw [Array.getElem?_setIfInBounds_ne (by omega)]
      simpa using this
  · refine ⟨h3.1, fun x hx => ⟨Nat.zero_le _, ?_⟩⟩
    by_cases hxb : x = b
    · subst hxb; exact ⟨_, e, heap_setCell_at w x (o + p) v' hc⟩
    · rw [hk x hxb]; exact (h3.2 x hx).2
theorem RowSt.list {w : World} {b o p : Nat} {L : List D} {F : List Nat} {ds : List D} (h : RowSt w b o L F) (hl : ∀ x ∈ L, x.len = 1) (hp : L[p]? = some (.list ds)) :
    ∃ v G, w.cell? ⟨b, o + p, none⟩ = some v ∧ Rd w (.list ds) [v] G ∧ Owned w 0 G ∧ (∀ x ∈ G, x ∈ F) ∧ ∀ w' ds', Mk G w w' → Rd w' (.list ds') [v] G → RowSt w' b o (L.set p (.list ds')) F := by
  obtain ⟨xs, h1, h2, h3⟩ := h
  obtain ⟨v, F1, F2, F3, k1, rfl, k2, k3⟩ := RdAll.splits L p _ h2 hl hp
  have hnd := List.nodup_cons.1 h3.1
  have hn2 := List.nodup_append.1 hnd.2
  have hn3 := List.nodup_append.1 hn2.2.1
  have hlt := h3.lt
  refine ⟨v, F2, h1 p v k1, k2, ⟨hn3.1, fun x hx => h3.2 x (by simp [hx])⟩, fun x hx => by simp [hx], fun w' ds' hm hr => ?_⟩
  have hb : b ∉ F2 := fun hx => hnd.1 (by simp [hx])
  have hkb := hm.2.2.2.2.1 b (hlt b (by simp)) hb
  refine ⟨xs, h1.keep hkb, ?_, hm.own h3⟩
  have := k3 w' (.list ds') v (fun x hx => hm.2.2.2.2.1 x (hlt x (by simp [hx])) fun hg => hn2.2.2 x hx x (by simp [hg]) rfl) (fun x hx => hm.2.2.2.2.1 x (hlt x (by simp [hx])) fun hg => hn3.2.2 x hg x hx rfl) hr
  rwa [set_same xs p v k1] at this

theorem Boxes.mk {F : List Nat} {w w' : World} {l : List (Nat × List Value)} (h : Boxes w l) (m : Mk F w w') (hd : ∀ p ∈ l, p.1 ∉ F) : Boxes w' l := fun i b cs hi => by
  have h0 := h i b cs hi
  refine ⟨Nat.lt_of_lt_of_le h0.1 m.2.2.2.1, fun j v hj => ?_⟩
  rw [← h0.2 j v hj]
  exact World.cell?_of_block (w := w) (m.2.2.2.2.1 b h0.1 (hd (b, cs) (List.mem_of_getElem? hi)))
/-- The numbers from k on. -/
def iotaI : Nat → Nat → List Int
  | _, 0 => []
  | k, n + 1 => (k : Int) :: iotaI (k + 1) n
theorem iotaI_length : ∀ (n k : Nat), (iotaI k n).length = n
  | 0, _ => rfl
  | n + 1, k => by simp [iotaI, iotaI_length n]
theorem iotaI_get : ∀ (n k j : Nat), j < n → (iotaI k n)[j]? = some ((k + j : Nat) : Int)
  | 0, k, j, h => absurd h (by omega)
  | n + 1, k, 0, _ => by simp [iotaI]
  | n + 1, k, j + 1, h => by rw [iotaI, List.getElem?_cons_succ, iotaI_get n (k + 1) j (by omega)]; congr 2; omega
theorem marks_In : ∀ (L : List Int) (k : Nat), D.marks k (In.ds L) = In.ds (iotaI k L.length)
  | [], _ => rfl
  | x :: L, k => by simp only [In.ds, In.d, D.marks, D.mark, D.num, List.length_cons, iotaI]; rw [marks_In L (k + 1)]
theorem nums_In : ∀ (L : List Int), D.nums (In.ds L) = L.length
  | [] => rfl
  | x :: L => by simp only [In.ds, In.d, D.nums, D.num, List.length_cons]; rw [nums_In L]; omega
theorem nums_Sr : ∀ (L : List ByteArray), D.nums (Sr.ds L) = L.length
  | [] => rfl
  | x :: L => by simp only [Sr.ds, Sr.d, D.nums, D.num, List.length_cons]; rw [nums_Sr L]; omega
theorem Owned.below {w w' : World} {base : Nat} {F : List Nat} (h : Owned w base F) (hb : Below w.heap.size w w') : Owned w' base F := h.keep fun x hx => hb.block x (h.lt x hx)
/-- A leaf: no struct. -/
def D.leaf : D → Prop
  | .struct _ => False
  | _ => True
theorem D.leaf_len {d : D} (h : D.leaf d) : d.len = 1 := by cases d <;> first | rfl | exact absurd h (by simp [D.leaf])
theorem D.leaf_mark {d : D} (k : Nat) (h : D.leaf d) : D.leaf (D.mark k d) := by cases d <;> simp [D.mark, D.leaf] at *
mutual
theorem D.flat_leaf : ∀ (d : D), ∀ x ∈ D.flat d, D.leaf x
  | .int _, x, h => by simp [D.flat] at h; subst h; trivial
  | .bool _, x, h => by simp [D.flat] at h; subst h; trivial
  | .str _, x, h => by simp [D.flat] at h; subst h; trivial
  | .list l, x, h => by simp [D.flat] at h; subst h; trivial
  | .struct l, x, h => D.flats_leaf l x (by rw [D.flat] at h; exact h)
theorem D.flats_leaf : ∀ (l : List D), ∀ x ∈ D.flats l, D.leaf x
  | [], x, h => by simp [D.flats] at h
  | d :: l, x, h => by
    rw [D.flats] at h
    rcases List.mem_append.1 h with h | h
    · exact D.flat_leaf d x h
    · exact D.flats_leaf l x h
end
theorem D.marks_leaf : ∀ (L : List D) (k : Nat), (∀ x ∈ L, D.leaf x) → ∀ x ∈ D.marks k L, D.leaf x
  | [], k, _, x, h => by simp [D.marks] at h
  | d :: L, k, hl, x, h => by
    rw [D.marks] at h
    rcases List.mem_cons.1 h with rfl | h
    · exact D.leaf_mark k (hl d (by simp))
    · exact D.marks_leaf L _ (fun y hy => hl y (by simp [hy])) x h
theorem D.upTo_len (k : Nat) (L : List D) (p : Nat) (hl : ∀ x ∈ L, D.leaf x) : ∀ x ∈ D.upTo k L p, x.len = 1 := by
  intro x hx
  rcases List.mem_append.1 hx with hx | hx
  · exact D.leaf_len (D.marks_leaf _ _ (fun y hy => hl y (List.mem_of_mem_take hy)) x hx)
  · exact D.leaf_len (hl x (List.mem_of_mem_drop hx))
/-- The row, its first p leaves marked. -/
def RowMk (k : Nat) (L : List D) (F : List Nat) (b o p : Nat) (w : World) : Prop := RowSt w b o (D.upTo k L p) F
theorem RowMk.start {k : Nat} {ds : List D} {F : List Nat} {b o : Nat} {w : World} {xs : List Value} (hx : Cells w b o xs) (hr : RdAll w ds xs F) (ho : Owned w 0 (b :: F)) : RowMk k (D.flats ds) F b o 0 w := by
  unfold RowMk
  rw [D.upTo_zero]
  exact ⟨xs, hx, RdAll.flats ds xs F hr, ho⟩
theorem RowMk.below {k : Nat} {L : List D} {F : List Nat} {b o p : Nat} {w w' : World} (h : RowMk k L F b o p w) (hb : Below w.heap.size w w') : RowMk k L F b o p w' := RowSt.below h hb
/-- A scalar that is to be marked next: its cell, and what a store there makes. -/
theorem RowMk.scalar {k : Nat} {L : List D} {F : List Nat} {b o p : Nat} {w : World} {d : D} (h : RowMk k L F b o p w) (hl : ∀ x ∈ L, D.leaf x) (hp : L[p]? = some d) (hs : ∀ w v G, Rd w d [v] G → G = []) :
    (∃ v, w.cell? ⟨b, o + p, none⟩ = some v) ∧ w.frozen? ⟨b, o + p, none⟩ = false ∧ ∀ v', (∀ w, Rd w (D.mark (k + D.nums (L.take p)) d) [v'] []) → RowMk k L F b o (p + 1) (w.setCell ⟨b, o + p, none⟩ v') := by
  obtain ⟨⟨v, h1, _⟩, h2, h3⟩ := RowSt.scalar h (D.upTo_len k L p hl) (D.upTo_get k L p d hp) hs
  refine ⟨⟨v, h1⟩, h2, fun v' hv => ?_⟩
  have := h3 _ v' hv
  unfold RowMk
  rwa [D.upTo_succ k L p d hp]
/-- A slice that is to be marked next. -/
theorem RowMk.list {k : Nat} {L : List D} {F : List Nat} {b o p : Nat} {w : World} {ds : List D} (h : RowMk k L F b o p w) (hl : ∀ x ∈ L, D.leaf x) (hp : L[p]? = some (.list ds)) :
    ∃ v G, w.cell? ⟨b, o + p, none⟩ = some v ∧ Rd w (.list ds) [v] G ∧ Owned w 0 G ∧ (∀ x ∈ G, x ∈ F) ∧ ∀ w', Mk G w w' → Rd w' (.list (D.marks (k + D.nums (L.take p)) ds)) [v] G → RowMk k L F b o (p + 1) w' := by
  obtain ⟨v, G, h1, h2, h3, h4, h5⟩ := RowSt.list h (D.upTo_len k L p hl) (D.upTo_get k L p _ hp)
  refine ⟨v, G, h1, h2, h3, h4, fun w' hm hr => ?_⟩
  have := h5 w' _ hm hr
  unfold RowMk
  rw [D.upTo_succ k L p _ hp]
  simpa [D.mark] using this
theorem D.upTo_later (k : Nat) (L : List D) (p q : Nat) (d : D) (hq : p ≤ q) (h : L[q]? = some d) : (D.upTo k L p)[q]? = some d := by
  have hp : q < L.length := (List.getElem?_eq_some_iff.1 h).1
  have hl : (D.marks k (L.take p)).length = p := by rw [D.marks_length, List.length_take]; omega
  rw [D.upTo, List.getElem?_append_right (by omega), hl, List.getElem?_drop, show p + (q - p) = q by omega]; exact h
/-- A leaf that is not marked yet. -/
theorem RowMk.peek {k : Nat} {L : List D} {F : List Nat} {b o p : Nat} {w : World} {d : D} (h : RowMk k L F b o p w) (hl : ∀ x ∈ L, D.leaf x) (q : Nat) (hq : p ≤ q) (hp : L[q]? = some d) :
    ∃ v G, w.cell? ⟨b, o + q, none⟩ = some v ∧ w.frozen? ⟨b, o + q, none⟩ = false ∧ Rd w d [v] G := by
  obtain ⟨xs, h1, h2, h3⟩ := h
  obtain ⟨v, F1, F2, F3, k1, rfl, k2, -⟩ := RdAll.splits (D.upTo k L p) q d h2 (D.upTo_len k L p hl) (D.upTo_later k L p q d hq hp)
  obtain ⟨cur, e, hc⟩ := (h3.2 b (by simp)).2
  exact ⟨v, F2, h1 q v k1, by simp [World.frozen?, hc], k2⟩
/-- The whole row is marked. -/
theorem RowMk.done {k : Nat} {ds : List D} {F : List Nat} {b o p n cap : Nat} {w : World} (h : RowMk k (D.flats ds) F b o p w) (hp : p = (D.flats ds).length) (hn : n = ds.length) (hne : ds ≠ []) (hl : n ≤ cap) (hc : cap ≤ 9223372036854775807) : Rd w (.list (D.marks k ds)) [.slice (some ⟨b, o, none⟩) n cap] (b :: F) := by
  subst hp hn
  obtain ⟨xs, h1, h2, h3⟩ := h
  rw [D.upTo_full, ← D.flats_mark] at h2
  have hne2 : D.marks k ds ≠ [] := fun e => hne (List.length_eq_zero_iff.1 (by rw [← D.marks_length ds k, e]; rfl))
  have := Rd.list_mk (cap := cap) hne2 (by rw [D.marks_length]; exact hl) hc (h3.lt b (by simp)) h1 (RdAll.unflats _ _ _ h2)
  rwa [D.marks_length] at this
/-- What a marking of a slice gives. -/
def MkPost (w : World) (v : Value) (F : List Nat) (k : Nat) (ds : List D) (e : Ending) (w' : World) : Prop := e = .returned (.int .i64 (k + D.nums ds : Nat)) ∧ Rd w' (.list (D.marks k ds)) [v] F ∧ Mk F w w'
theorem Rd.int_sc {n : Int} : ∀ w v G, Rd w (.int n) [v] G → G = [] := fun _ _ _ h => h.int_inv.2.1
theorem Rd.str_sc {s : ByteArray} : ∀ w v G, Rd w (.str s) [v] G → G = [] := fun _ _ _ h => h.str_inv.2.1
theorem Rd.bool_sc {b : Bool} : ∀ w v G, Rd w (.bool b) [v] G → G = [] := fun _ _ _ h => h.bool_inv.2
end Go.Proofs.Ytejdbmeoaekhcaa
/- was: MkTxt -/
namespace Go.Proofs.Ytejdbmeoaekhcaa
open Go.ChangeShapes Go.WideShapes Go.ChangeAt Go.RowKit
set_option linter.unusedVariables false

theorem one_new' (w : World) (a : Value) (t : TypeId) : (w.alloc (.cells #[a] t)).cell? ⟨w.heap.size, 0, none⟩ = some a := by
  have hh : (w.alloc (.cells #[a] t (0, 0))).heap[w.heap.size]? = some (.cells #[a] t (0, 0)) := heap_alloc_new w _
  simp only [World.cell?, hh]
  simp
theorem mdig_zero (f m : Nat) (out : ByteArray) (h : m = 0) : mdig f m out = out := by subst h; cases f <;> simp [mdig]
end Go.Proofs.Ytejdbmeoaekhcaa
/- was: MkSc -/
namespace Go.Proofs.Ytejdbmeoaekhcaa
open Go.ChangeShapes Go.WideShapes Go.ChangeAt Go.RowKit
set_option linter.unusedVariables false

theorem lens_In : ∀ ts : List Int, D.lens (In.ds ts) = ts.length
  | [] => rfl
  | t :: ts => by simp [In.ds, In.d, D.lens, D.len, lens_In ts]; omega
theorem dlen_In : ∀ (ts : List Int), ∀ y ∈ In.ds ts, y.len = 1
  | [], y, h => by simp [In.ds] at h
  | t :: ts, y, h => by
    simp only [In.ds, List.mem_cons] at h
    rcases h with rfl | h
    · rfl
    · exact dlen_In ts y h
set_option maxRecDepth 100000 in
set_option maxHeartbeats 4000000 in
theorem markIns (ts : List Int) (a : Option Addr) (c : Nat) (F : List Nat) (k : Nat) (w : World) (hlen : ts.length ≤ 9223372036854775807) (hk : k + D.nums (In.ds ts) ≤ 1099511627776) (hr : Rd w (.list (In.ds ts)) [.slice a ts.length c] F) (ho : Owned w 0 F) :
    Calls Try.prog 36 #[.slice a ts.length c, .int .i64 k] w (MkPost w (.slice a ts.length c) F k (In.ds ts)) := by
  have hdl := In.ds_length ts
  by_cases hne : ts = []
  case pos =>
    have HP := hid (show MkPost w (.slice a ts.length c) F k (In.ds ts) (.returned (.int .i64 k)) w by
      subst hne
      exact ⟨by simp [In.ds, D.nums], by simpa [In.ds, D.marks] using hr, Mk.refl _ _⟩)
    have hz : ts.length = 0 := by rw [hne]; rfl
    clear hr ho hk hdl hne
    go_enter Try.func36, Try.ntmps36
    go_wp2_with fail
    go_loopw [1, 5] (fun q i wr => ∃ (j : Nat), j = 0 ∧ i = .int .i64 j ∧ q = .int .i64 k ∧ w = wr) (fun _ i _ => 0)
    case atStart => exact ⟨0, rfl, rfl, rfl, rfl⟩
    case round =>
      obtain ⟨j, hj, rfl, rfl, rfl⟩ := hrel
      have hlt : ¬ j < ts.length := by omega
      go_wp2_with fail
      go_ret
      exact HP.out
  case neg =>
  have hdne : In.ds ts ≠ [] := fun e => hne (List.length_eq_zero_iff.1 (by rw [← hdl, e]; rfl))
  obtain ⟨a', cap', e, h2, h3, h4⟩ := hr.list_inv
  simp only [List.cons.injEq, Value.slice.injEq, and_true] at e
  obtain ⟨rfl, -, rfl⟩ := e
  rcases h4 with ⟨h, _⟩ | ⟨b, o, xs, F', _, rfl, rfl, hbl, hx, hr'⟩
  · exact absurd h hdne
  have HRW := hid (RowMk.start (k := k) hx hr' ho)
  have HDN := hid (fun p W (h : RowMk k (D.flats (In.ds ts)) F' b o p W) (hp : p = (D.flats (In.ds ts)).length) => h.done hp hdl.symm hdne (by omega) h3)
  have HFL := hid (show (D.flats (In.ds ts)).length = ts.length by rw [D.flats_length]; exact lens_In ts)
  have HNU := hid (D.flats_num (In.ds ts))
  have HLL := hid (D.flats_leaf (In.ds ts))
  have HGT := hid (fun j i d x h1 h2 => D.flats_get (m := 1) (In.ds ts) j i d x (fun y hy => dlen_In ts y hy) h1 h2)
  have HGE := hid (In.ds_get ts)
  generalize hL : D.flats (In.ds ts) = L at HRW HDN HFL HNU HLL HGT
  have HK := hid hk
  have HNE := hid hne
  clear hr ho hk hdl hne hdne hx hr' hL h2 hbl
  go_enter Try.func36, Try.ntmps36
  go_wp2_with fail
  go_loopw [1, 5] (fun q i wr => ∃ (j kk : Nat), j ≤ ts.length ∧ i = .int .i64 j ∧ q = .int .i64 kk ∧ Hid (k + D.nums (L.take (j)) = kk) ∧ Hid (RowMk k L F' b o (j) wr) ∧ Hid (Mk (b :: F') w wr)) (fun _ i _ => ts.length - (intOf i).toNat)
  case atStart => exact ⟨0, k, by omega, rfl, rfl, by simp [D.nums, Hid], by simpa [Hid] using HRW.out, Mk.refl _ _⟩
  case round =>
    obtain ⟨j, kk, hj, rfl, rfl, HE0, HS0, HM0⟩ := hrel
    have hkk : kk ≤ 1099511627776 := by have h1 := HE0.out; have h2 := D.nums_take_le L (j); have h3 := HNU.out; have h4 := HK.out; omega
    by_cases hlt : j < ts.length
    case neg =>
      have HP := hid (show MkPost w (.slice (some ⟨b, o, none⟩) ts.length c) (b :: F') k (In.ds ts) (.returned (.int .i64 kk)) wr by
        obtain rfl : j = ts.length := by omega
        refine ⟨?_, HDN.out _ _ HS0.out HFL.out.symm, HM0.out⟩
        have h1 := HE0.out
        rw [← HFL.out, List.take_length, HNU.out] at h1
        rw [h1])
      go_wp2_with fail
      go_ret
      exact HP.out
    case pos =>
      obtain ⟨t, ht⟩ : ∃ t, ts[j]? = some t := ⟨_, List.getElem?_eq_getElem hlt⟩
      obtain ⟨x3, rfl⟩ : ∃ x3, x3 = t := ⟨_, rfl⟩
      have hL0 : L[j]? = some (.int x3) := by have := HGT.out j 0 (.int x3) (.int x3) (by rw [HGE.out, ht]; rfl) rfl; simpa using this
      obtain ⟨v0, G0, c0, z0, r0⟩ := HS0.out.peek HLL.out j (by omega) hL0
      have c0' : wr.cell? ⟨b, o + j, none⟩ = some v0 := c0
      have z0' : wr.frozen? ⟨b, o + j, none⟩ = false := z0
      have hv0 : ∀ W, Rd W (D.mark (k + D.nums (L.take j)) (.int x3)) [.int .i64 ((kk : Int))] [] := fun W => by rw [HE0.out]; have := Rd.int_mk (w := W) (n := ((kk : Nat) : Int)) (by omega) (by omega); simpa [D.mark] using this
      have S1 : Hid (RowMk k L F' b o (j + 1) _) := hid ((HS0.out.scalar HLL.out hL0 Rd.int_sc).2.2 _ hv0)
      have M1 := hid (HM0.out.trans (Mk.set (o := o + j) (.int .i64 ((kk : Int))) (List.mem_cons_self)))
      have E1 := hid (show k + D.nums (L.take (j + 1)) = kk + 1 by have h1 : D.nums (L.take (j + 1)) = _ := D.nums_take L _ _ hL0; have h2 := HE0.out; have h3 : D.num (.int x3) = 1 := rfl; omega)
      have hb1 : kk + 1 ≤ 1099511627776 := by have h1 := E1.out; have h2 := D.nums_take_le L (j + 1); have h3 := HNU.out; have h4 := HK.out; omega
      go_wp2_with fail
      go_roundw
      case rel => exact ⟨j + 1, kk + 1, by omega, by go_num, by go_num, E1, S1, M1⟩
      case measure => simp [intOf]; omega
theorem lens_Sr : ∀ ts : List ByteArray, D.lens (Sr.ds ts) = ts.length
  | [] => rfl
  | t :: ts => by simp [Sr.ds, Sr.d, D.lens, D.len, lens_Sr ts]; omega
theorem dlen_Sr : ∀ (ts : List ByteArray), ∀ y ∈ Sr.ds ts, y.len = 1
  | [], y, h => by simp [Sr.ds] at h
  | t :: ts, y, h => by
    simp only [Sr.ds, List.mem_cons] at h
    rcases h with rfl | h
    · rfl
    · exact dlen_Sr ts y h
end Go.Proofs.Ytejdbmeoaekhcaa
/- was: MkCo -/
namespace Go.Proofs.Ytejdbmeoaekhcaa
open Go.ChangeShapes Go.WideShapes Go.ChangeAt Go.RowKit
set_option linter.unusedVariables false

theorem lens_Co : ∀ ts : List Co, D.lens (Co.ds ts) = ts.length * 4
  | [] => rfl
  | t :: ts => by simp [Co.ds, D.lens, Co.d_len, lens_Co ts]; omega
def MkCoW (N : Nat) : Prop := ∀ (ts : List Co) (a : Option Addr) (c : Nat) (F : List Nat) (k : Nat) (w : World), Co.bulks ts < N → ts.length ≤ 9223372036854775807 → k + D.nums (Co.ds ts) ≤ 1099511627776 → Rd w (.list (Co.ds ts)) [.slice a ts.length c] F → Owned w 0 F → Calls Try.prog 35 #[.slice a ts.length c, .int .i64 k] w (MkPost w (.slice a ts.length c) F k (Co.ds ts))
set_option maxRecDepth 100000 in
set_option maxHeartbeats 4000000 in
theorem markCos_step (N : Nat) (ih : MkCoW N) : MkCoW (N + 1) := by
  intro ts a c F k w hN hlen hk hr ho
  have hdl := Co.ds_length ts
  by_cases hne : ts = []
  case pos =>
    have HP := hid (show MkPost w (.slice a ts.length c) F k (Co.ds ts) (.returned (.int .i64 k)) w by
      subst hne
      exact ⟨by simp [Co.ds, D.nums], by simpa [Co.ds, D.marks] using hr, Mk.refl _ _⟩)
    have hz : ts.length = 0 := by rw [hne]; rfl
    clear hr ho hk hdl hne ih hN
    go_enter Try.func35, Try.ntmps35
    go_wp2_with fail
    go_loopw [1, 5] (fun q i wr => ∃ (j : Nat), j = 0 ∧ i = .int .i64 j ∧ q = .int .i64 k ∧ w = wr) (fun _ i _ => 0)
    case atStart => exact ⟨0, rfl, rfl, rfl, rfl⟩
    case round =>
      obtain ⟨j, hj, rfl, rfl, rfl⟩ := hrel
      have hlt : ¬ j < ts.length := by omega
      go_wp2_with fail
      go_ret
      exact HP.out
  case neg =>
  have hdne : Co.ds ts ≠ [] := fun e => hne (List.length_eq_zero_iff.1 (by rw [← hdl, e]; rfl))
  obtain ⟨a', cap', e, h2, h3, h4⟩ := hr.list_inv
  simp only [List.cons.injEq, Value.slice.injEq, and_true] at e
  obtain ⟨rfl, -, rfl⟩ := e
  rcases h4 with ⟨h, _⟩ | ⟨b, o, xs, F', _, rfl, rfl, hbl, hx, hr'⟩
  · exact absurd h hdne
  have HRW := hid (RowMk.start (k := k) hx hr' ho)
  have HDN := hid (fun p W (h : RowMk k (D.flats (Co.ds ts)) F' b o p W) (hp : p = (D.flats (Co.ds ts)).length) => h.done hp hdl.symm hdne (by omega) h3)
  have HFL := hid (show (D.flats (Co.ds ts)).length = ts.length * 4 by rw [D.flats_length]; exact lens_Co ts)
  have HNU := hid (D.flats_num (Co.ds ts))
  have HLL := hid (D.flats_leaf (Co.ds ts))
  have HGT := hid (fun j i d x h1 h2 => D.flats_get (m := 4) (Co.ds ts) j i d x (Co.ds_len ts) h1 h2)
  have HGE := hid (Co.ds_get ts)
  generalize hL : D.flats (Co.ds ts) = L at HRW HDN HFL HNU HLL HGT
  have HK := hid hk
  have HNE := hid hne
  have IH := hid ih
  have HN := hid hN
  clear hr ho hk hdl hne hdne hx hr' hL h2 hbl ih hN
  go_enter Try.func35, Try.ntmps35
  go_wp2_with fail
  go_loopw [1, 5] (fun q i wr => ∃ (j kk : Nat), j ≤ ts.length ∧ i = .int .i64 j ∧ q = .int .i64 kk ∧ Hid (k + D.nums (L.take (j * 4)) = kk) ∧ Hid (RowMk k L F' b o (j * 4) wr) ∧ Hid (Mk (b :: F') w wr)) (fun _ i _ => ts.length - (intOf i).toNat)
  case atStart => exact ⟨0, k, by omega, rfl, rfl, by simp [D.nums, Hid], by simpa [Hid] using HRW.out, Mk.refl _ _⟩
  case round =>
    obtain ⟨j, kk, hj, rfl, rfl, HE0, HS0, HM0⟩ := hrel
    have hkk : kk ≤ 1099511627776 := by have h1 := HE0.out; have h2 := D.nums_take_le L (j * 4); have h3 := HNU.out; have h4 := HK.out; omega
    by_cases hlt : j < ts.length
    case neg =>
      have HP := hid (show MkPost w (.slice (some ⟨b, o, none⟩) ts.length c) (b :: F') k (Co.ds ts) (.returned (.int .i64 kk)) wr by
        obtain rfl : j = ts.length := by omega
        refine ⟨?_, HDN.out _ _ HS0.out HFL.out.symm, HM0.out⟩
        have h1 := HE0.out
        rw [← HFL.out, List.take_length, HNU.out] at h1
        rw [h1])
      go_wp2_with fail
      go_ret
      exact HP.out
    case pos =>
      obtain ⟨t, ht⟩ : ∃ t, ts[j]? = some t := ⟨_, List.getElem?_eq_getElem hlt⟩
      obtain ⟨k3, v3, ds3, ks3⟩ := t
      have hL0 : L[j * 4]? = some (.int k3) := HGT.out j 0 (Co.d (Co.mk k3 v3 ds3 ks3)) (.int k3) (by rw [HGE.out, ht]; rfl) (by simp [Co.d, D.flat, D.flats])
      have hL1 : L[j * 4 + 1]? = some (.int v3) := HGT.out j 1 (Co.d (Co.mk k3 v3 ds3 ks3)) (.int v3) (by rw [HGE.out, ht]; rfl) (by simp [Co.d, D.flat, D.flats])
      have hL2 : L[j * 4 + 2]? = some (.list (In.ds ds3)) := HGT.out j 2 (Co.d (Co.mk k3 v3 ds3 ks3)) (.list (In.ds ds3)) (by rw [HGE.out, ht]; rfl) (by simp [Co.d, D.flat, D.flats])
      have hL3 : L[j * 4 + 3]? = some (.list (Co.ds ks3)) := HGT.out j 3 (Co.d (Co.mk k3 v3 ds3 ks3)) (.list (Co.ds ks3)) (by rw [HGE.out, ht]; rfl) (by simp [Co.d, D.flat, D.flats])
      obtain ⟨v0, G0, c0, z0, r0⟩ := HS0.out.peek HLL.out (j * 4) (by omega) hL0
      have c0' : wr.cell? ⟨b, o + j * 4, none⟩ = some v0 := c0
      have z0' : wr.frozen? ⟨b, o + j * 4, none⟩ = false := z0
      obtain ⟨v1, G1, c1, z1, r1⟩ := HS0.out.peek HLL.out (j * 4 + 1) (by omega) hL1
      have c1' : wr.cell? ⟨b, o + j * 4 + 1, none⟩ = some v1 := c1
      have z1' : wr.frozen? ⟨b, o + j * 4 + 1, none⟩ = false := z1
      have hv0 : ∀ W, Rd W (D.mark (k + D.nums (L.take (j * 4))) (.int k3)) [.int .i64 ((kk : Int))] [] := fun W => by rw [HE0.out]; have := Rd.int_mk (w := W) (n := ((kk : Nat) : Int)) (by omega) (by omega); simpa [D.mark] using this
      have S1 : Hid (RowMk k L F' b o (j * 4 + 1) _) := hid ((HS0.out.scalar HLL.out hL0 Rd.int_sc).2.2 _ hv0)
      have M1 := hid (HM0.out.trans (Mk.set (o := o + (j * 4)) (.int .i64 ((kk : Int))) (List.mem_cons_self)))
      have E1 := hid (show k + D.nums (L.take (j * 4 + 1)) = kk + 1 by have h1 : D.nums (L.take (j * 4 + 1)) = _ := D.nums_take L _ _ hL0; have h2 := HE0.out; have h3 : D.num (.int k3) = 1 := rfl; omega)
      have hb1 : kk + 1 ≤ 1099511627776 := by have h1 := E1.out; have h2 := D.nums_take_le L (j * 4 + 1); have h3 := HNU.out; have h4 := HK.out; omega
      have hv1 : ∀ W, Rd W (D.mark (k + D.nums (L.take (j * 4 + 1))) (.int v3)) [.int .i64 ((kk : Int) + 1)] [] := fun W => by rw [E1.out]; have := Rd.int_mk (w := W) (n := ((kk + 1 : Nat) : Int)) (by omega) (by omega); simpa [D.mark] using this
      have S2 : Hid (RowMk k L F' b o (j * 4 + 2) _) := hid ((S1.out.scalar HLL.out hL1 Rd.int_sc).2.2 _ hv1)
      have M2 := hid (M1.out.trans (Mk.set (o := o + (j * 4 + 1)) (.int .i64 ((kk : Int) + 1)) (List.mem_cons_self)))
      have E2 := hid (show k + D.nums (L.take (j * 4 + 2)) = kk + 1 + 1 by have h1 : D.nums (L.take (j * 4 + 2)) = _ := D.nums_take L _ _ hL1; have h2 := E1.out; have h3 : D.num (.int v3) = 1 := rfl; omega)
      have hb2 : kk + 1 + 1 ≤ 1099511627776 := by have h1 := E2.out; have h2 := D.nums_take_le L (j * 4 + 2); have h3 := HNU.out; have h4 := HK.out; omega
      obtain ⟨y2, G2', c2'', r2', o2', s2', set2⟩ := S2.out.list HLL.out hL2
      obtain ⟨a2, n2, ee2, h22, h32, -⟩ := r2'.list_inv
      simp only [List.cons.injEq, and_true, In.ds_length] at ee2 h22
      obtain rfl := ee2
      have c2' : wr.cell? ⟨b, o + j * 4 + 2, none⟩ = some (.slice a2 ds3.length n2) := by have h := c2''; rw [cell_set_ne (by omega), cell_set_ne (by omega)] at h; exact h
      obtain ⟨kx2, hkx2⟩ : ∃ kx, kx = kk + 1 + 1 + D.nums (In.ds ds3) := ⟨_, rfl⟩
      have E3 := hid (show k + D.nums (L.take (j * 4 + 3)) = kx2 by have h1 : D.nums (L.take (j * 4 + 3)) = _ := D.nums_take L _ _ hL2; have h2 := E2.out; have h3 : D.num (.list (In.ds ds3)) = D.nums (In.ds ds3) := (by rw [D.num]); omega)
      have hb3 : kx2 ≤ 1099511627776 := by have h1 := E3.out; have h2 := D.nums_take_le L (j * 4 + 3); have h3 := HNU.out; have h4 := HK.out; omega
      have hc2 := markIns ds3 a2 n2 G2' (kk + 1 + 1) _ (by omega) (by omega) r2' o2'
      unfold MkPost at hc2
      rw [← hkx2] at hc2
      rw [show ((kk + 1 + 1 : Nat) : Int) = (kk : Int) + 1 + 1 from by omega] at hc2
      have HKX2 := hid hkx2
      clear hkx2
      have HC2 := hid hc2
      have HST2 := hid set2
      rw [E2.out] at HST2
      have HSU2 := hid s2'
      clear hc2 set2 s2' r2' o2' c2''
      go_wp2_with fail
      refine HC2.out.mono ?_
      rintro e u2 ⟨rfl, hrd, hmk⟩
      have S3 : Hid (RowMk k L F' b o (j * 4 + 3) _) := hid (HST2.out _ hmk hrd)
      have M3 := hid (M2.out.trans (hmk.mono fun x hx => List.mem_cons_of_mem _ (HSU2.out x hx)))
      clear hmk hrd HC2 HST2 c0' z0' c1' z1' c2'
      obtain ⟨y3, G3', c3'', r3', o3', s3', set3⟩ := S3.out.list HLL.out hL3
      obtain ⟨a3, n3, ee3, h23, h33, -⟩ := r3'.list_inv
      simp only [List.cons.injEq, and_true, Co.ds_length] at ee3 h23
      obtain rfl := ee3
      have c3' : u2.cell? ⟨b, o + j * 4 + 3, none⟩ = some (.slice a3 ks3.length n3) := by have h := c3''; exact h
      obtain ⟨kx3, hkx3⟩ : ∃ kx, kx = kx2 + D.nums (Co.ds ks3) := ⟨_, rfl⟩
      have E4 := hid (show k + D.nums (L.take (j * 4 + 4)) = kx3 by have h1 : D.nums (L.take (j * 4 + 4)) = _ := D.nums_take L _ _ hL3; have h2 := E3.out; have h3 : D.num (.list (Co.ds ks3)) = D.nums (Co.ds ks3) := (by rw [D.num]); omega)
      have hb4 : kx3 ≤ 1099511627776 := by have h1 := E4.out; have h2 := D.nums_take_le L (j * 4 + 4); have h3 := HNU.out; have h4 := HK.out; omega
      have hc3 := IH.out ks3 a3 n3 G3' (kx2) _ (by have h1 := Co.bulk_get ts j _ ht; have h2 := HN.out; have h3 : Co.bulks ks3 ≤ Co.bulk (Co.mk k3 v3 ds3 ks3) := (by simp only [Co.bulk]; omega); omega) (by omega) (by omega) r3' o3'
      unfold MkPost at hc3
      rw [← hkx3] at hc3
      have HKX3 := hid hkx3
      clear hkx3
      have HC3 := hid hc3
      have HST3 := hid set3
      rw [E3.out] at HST3
      have HSU3 := hid s3'
      clear hc3 set3 s3' r3' o3' c3''
      go_wp2_with fail
      refine HC3.out.mono ?_
      rintro e u3 ⟨rfl, hrd, hmk⟩
      have S4 : Hid (RowMk k L F' b o (j * 4 + 4) _) := hid (HST3.out _ hmk hrd)
      have M4 := hid (M3.out.trans (hmk.mono fun x hx => List.mem_cons_of_mem _ (HSU3.out x hx)))
      clear hmk hrd HC3 HST3 c3'
      go_wp2_with fail
      go_roundw
      case rel => exact ⟨j + 1, kx3, by omega, by go_num, by go_num, by rw [Nat.succ_mul]; exact E4, by rw [Nat.succ_mul]; exact S4, M4⟩
      case measure => simp [intOf]; omega
theorem markCos_all : ∀ N, MkCoW N
  | 0 => fun _ _ _ _ _ _ h => absurd h (by omega)
  | N + 1 => markCos_step N (markCos_all N)
theorem markCos (ts : List Co) (a : Option Addr) (c : Nat) (F : List Nat) (k : Nat) (w : World) (hlen : ts.length ≤ 9223372036854775807) (hk : k + D.nums (Co.ds ts) ≤ 1099511627776) (hr : Rd w (.list (Co.ds ts)) [.slice a ts.length c] F) (ho : Owned w 0 F) :
    Calls Try.prog 35 #[.slice a ts.length c, .int .i64 k] w (MkPost w (.slice a ts.length c) F k (Co.ds ts)) :=
  markCos_all (Co.bulks ts + 1) ts a c F k w (by omega) hlen hk hr ho
end Go.Proofs.Ytejdbmeoaekhcaa
/- was: MkVCo -/
namespace Go.Proofs.Ytejdbmeoaekhcaa
open Go.ChangeShapes Go.WideShapes Go.ChangeAt Go.RowKit
set_option linter.unusedVariables false

mutual
theorem Co.num_le : ∀ t : Co, D.num (Co.d t) ≤ 2 + 2 * Co.bulk t
  | .mk k v ds ks => by
    have h_ds := nums_In ds
    have g_ds := In.bulks_length ds
    have h_ks := Co.nums_le ks
    simp only [Co.d, D.num, D.nums, Co.bulk] at *
    omega
theorem Co.nums_le : ∀ ts : List Co, D.nums (Co.ds ts) ≤ 2 * Co.bulks ts
  | [] => by simp [Co.ds, D.nums]
  | t :: ts => by have h1 := Co.num_le t; have h2 := Co.nums_le ts; simp only [Co.ds, D.nums, Co.bulks]; omega
end
theorem Rd.parts_Co {w : World} {k : Int} {v : Int} {ds : List Int} {ks : List Co} {ads : Option Addr} {cds : Nat} {aks : Option Addr} {cks : Nat} {F : List Nat} (h : Rd w (Co.d (Co.mk k v ds ks)) [.int .i64 k, .int .i64 v, .slice ads ds.length cds, .slice aks ks.length cks] F) : ∃ P2 P3, F = P2 ++ P3 ∧ Rd w (.list (In.ds ds)) [.slice ads ds.length cds] P2 ∧ Rd w (.list (Co.ds ks)) [.slice aks ks.length cks] P3 := by
  obtain ⟨e0, r0, F0, G0, x0, rfl, g0, k0⟩ := h.struct_inv.cons_inv
  have l0 := g0.length
  obtain ⟨e1, r1, F1, G1, x1, rfl, g1, k1⟩ := k0.cons_inv
  have l1 := g1.length
  obtain ⟨e2, r2, F2, G2, x2, rfl, g2, k2⟩ := k1.cons_inv
  have l2 := g2.length
  obtain ⟨e3, r3, F3, G3, x3, rfl, g3, k3⟩ := k2.cons_inv
  have l3 := g3.length
  obtain ⟨xr, xg⟩ := RdAll.nil_inv k3
  simp only [D.len] at l0 l1 l2 l3
  match e0, l0 with
  | [y0_0], _ =>
  simp only [List.cons_append, List.nil_append, List.cons.injEq] at x0
  obtain ⟨rfl, x0'⟩ := x0
  subst x0'
  match e1, l1 with
  | [y1_0], _ =>
  simp only [List.cons_append, List.nil_append, List.cons.injEq] at x1
  obtain ⟨rfl, x1'⟩ := x1
  subst x1'
  match e2, l2 with
  | [y2_0], _ =>
  simp only [List.cons_append, List.nil_append, List.cons.injEq] at x2
  obtain ⟨rfl, x2'⟩ := x2
  subst x2'
  match e3, l3 with
  | [y3_0], _ =>
  simp only [List.cons_append, List.nil_append, List.cons.injEq] at x3
  obtain ⟨rfl, x3'⟩ := x3
  subst x3'
  obtain rfl := g0.int_inv.2.1
  obtain rfl := g1.int_inv.2.1
  subst xg
  exact ⟨F2, F3, by simp, g2, g3⟩
set_option maxHeartbeats 1000000 in
theorem markCo_in (k1 : Int) (v1 : Int) (ds1 : List Int) (ks1 : List Co) (ads1 : Option Addr) (cds1 : Nat) (aks1 : Option Addr) (cks1 : Nat) (F : List Nat) (k : Nat) (w : World) (hM : Co.bulk (Co.mk k1 v1 ds1 ks1) ≤ 1048576) (hk : k ≤ 549755813888) (hr : Rd w (Co.d (Co.mk k1 v1 ds1 ks1)) [.int .i64 k1, .int .i64 v1, .slice ads1 ds1.length cds1, .slice aks1 ks1.length cks1] F) (ho : Owned w 0 F) :
    Calls Try.prog 17 #[.agg #[.int .i64 k1, .int .i64 v1, .slice ads1 ds1.length cds1, .slice aks1 ks1.length cks1], .int .i64 k] w fun e w' => ∃ r : Nat, e = .returned (.int .i64 r) ∧ r ≤ k + 2 * Co.bulk (Co.mk k1 v1 ds1 ks1) ∧ Mk F w w' := by
  have hbk : Co.bulk (Co.mk k1 v1 ds1 ks1) = In.bulks ds1 + Co.bulks ks1 := rfl
  have hlt := hr.lt
  obtain ⟨P2, P3, rfl, p2, p3⟩ := hr.parts_Co
  have hB := (Below.refl w.heap.size w).alloc (Nat.le_refl _) (.cells #[.int .i64 k1, .int .i64 v1, .slice ads1 ds1.length cds1, .slice aks1 ks1.length cks1] 36)
  have hx0 := (Boxes.nil w).alloc #[.int .i64 k1, .int .i64 v1, .slice ads1 ds1.length cds1, .slice aks1 ks1.length cks1] 36 (0, 0)
  generalize hw1 : w.alloc (.cells #[.int .i64 k1, .int .i64 v1, .slice ads1 ds1.length cds1, .slice aks1 ks1.length cks1] 36) = w1 at hB hx0
  have hnd := ho.1
  have ho1 := ho.keep (w' := w1) fun x hx => hB.block x (hlt x hx)
  have q2 := p2.below hB
  have q3 := p3.below hB
  have nd0 := List.nodup_append.1 hnd
  have ow2 : Owned w1 0 P2 := ⟨nd0.1, fun x hx => ho1.2 x (by simp [hx])⟩
  have ow3 : Owned w1 0 P3 := ⟨nd0.2.1, fun x hx => ho1.2 x (by simp [hx])⟩
  have HX0 := hid hx0
  have HBx := hid (fun x (hx : x ∈ P2 ++ P3) => hlt x hx)
  have HB := hid hB
  have hn2 := nums_In ds1
  have hg2 := In.bulks_length ds1
  have hc2 := markIns ds1 ads1 cds1 P2 k w1 (by omega) (by omega) q2 ow2
  obtain ⟨r2, hr2⟩ : ∃ r, r = k + D.nums (In.ds ds1) := ⟨_, rfl⟩
  unfold MkPost at hc2
  rw [← hr2] at hc2
  have HC2 := hid hc2
  clear hc2
  have hr2b : r2 ≤ k + 2 * In.bulks ds1 := by omega
  have HRX2 := hid hr2
  clear hr2
  subst hw1
  go_enter Try.func17, Try.ntmps17
  go_wp2_with fail
  refine HC2.out.mono ?_
  rintro e u2 ⟨rfl, _, hm⟩
  have MM := hid hm
  have q3 := hm.rd q3 (fun x hx hy => nd0.2.2 x hy x (by simp [hx]) rfl)
  have ow3 := hm.own ow3
  have HX1 := hid (Boxes.mk HX0.out hm (fun p hp hy => by
    have : p.1 = w.heap.size := by simpa using congrArg Prod.fst (List.mem_singleton.1 hp)
    have := HBx.out p.1 (by simp [hy]); omega))
  have HM1 := hid (hm.mono (F := P2 ++ P3) fun x hx => by simp [hx])
  clear hm
  have g1_0 := HX1.out.at 0 0 rfl rfl
  have g1_1 := HX1.out.at 0 1 rfl rfl
  have g1_2 := HX1.out.at 0 2 rfl rfl
  have g1_3 := HX1.out.at 0 3 rfl rfl
  have hn3 := Co.nums_le ks1
  have hg3 := Co.bulks_length ks1
  have hc3 := markCos ks1 aks1 cks1 P3 r2 u2 (by omega) (by omega) q3 ow3
  obtain ⟨r3, hr3⟩ : ∃ r, r = r2 + D.nums (Co.ds ks1) := ⟨_, rfl⟩
  unfold MkPost at hc3
  rw [← hr3] at hc3
  have HC3 := hid hc3
  clear hc3
  have hr3b : r3 ≤ r2 + 2 * Co.bulks ks1 := by omega
  have HRX3 := hid hr3
  clear hr3
  go_wp2_with fail
  refine HC3.out.mono ?_
  rintro e u3 ⟨rfl, _, hm⟩
  have HX2 := hid (Boxes.mk HX1.out hm (fun p hp hy => by
    have : p.1 = w.heap.size := by simpa using congrArg Prod.fst (List.mem_singleton.1 hp)
    have := HBx.out p.1 (by simp [hy]); omega))
  have HM2 := hid (HM1.out.trans (hm.mono fun x hx => by simp [hx]))
  clear hm
  clear g1_0 g1_1 g1_2 g1_3
  go_wp2_with fail
  go_ret
  exact ⟨r3, rfl, by omega, (Mk.of_below HB.out).trans HM2.out⟩
theorem Rd.parts_Bk {w : World} {fs : List Co} {afs : Option Addr} {cfs : Nat} {F : List Nat} (h : Rd w (Bk.d (Bk.mk fs)) [.slice afs fs.length cfs] F) : ∃ P0, F = P0 ∧ Rd w (.list (Co.ds fs)) [.slice afs fs.length cfs] P0 := by
  obtain ⟨e0, r0, F0, G0, x0, rfl, g0, k0⟩ := h.struct_inv.cons_inv
  have l0 := g0.length
  obtain ⟨xr, xg⟩ := RdAll.nil_inv k0
  simp only [D.len] at l0
  match e0, l0 with
  | [y0_0], _ =>
  simp only [List.cons_append, List.nil_append, List.cons.injEq] at x0
  obtain ⟨rfl, x0'⟩ := x0
  subst x0'
  subst xg
  exact ⟨F0, by simp, g0⟩
set_option maxHeartbeats 1000000 in
theorem markBk_in (fs1 : List Co) (afs1 : Option Addr) (cfs1 : Nat) (F : List Nat) (k : Nat) (w : World) (hM : Bk.bulk (Bk.mk fs1) ≤ 1048576) (hk : k ≤ 549755813888) (hr : Rd w (Bk.d (Bk.mk fs1)) [.slice afs1 fs1.length cfs1] F) (ho : Owned w 0 F) :
    Calls Try.prog 16 #[.agg #[.slice afs1 fs1.length cfs1], .int .i64 k] w fun e w' => ∃ r : Nat, e = .returned (.int .i64 r) ∧ r ≤ k + 2 * Bk.bulk (Bk.mk fs1) ∧ Mk F w w' := by
  have hbk : Bk.bulk (Bk.mk fs1) = Co.bulks fs1 := rfl
  have hlt := hr.lt
  obtain ⟨P0, hPF, p0⟩ := hr.parts_Bk
  obtain rfl := hPF.symm
  have hB := (Below.refl w.heap.size w).alloc (Nat.le_refl _) (.cells #[.slice afs1 fs1.length cfs1] 33)
  have hx0 := (Boxes.nil w).alloc #[.slice afs1 fs1.length cfs1] 33 (0, 0)
  generalize hw1 : w.alloc (.cells #[.slice afs1 fs1.length cfs1] 33) = w1 at hB hx0
  have hnd := ho.1
  have ho1 := ho.keep (w' := w1) fun x hx => hB.block x (hlt x hx)
  have q0 := p0.below hB
  have ow0 : Owned w1 0 P0 := ⟨hnd, fun x hx => ho1.2 x (by simp [hx])⟩
  have HX0 := hid hx0
  have HBx := hid (fun x (hx : x ∈ P0) => hlt x hx)
  have HB := hid hB
  have hn0 := Co.nums_le fs1
  have hg0 := Co.bulks_length fs1
  have hc0 := markCos fs1 afs1 cfs1 P0 k w1 (by omega) (by omega) q0 ow0
  obtain ⟨r0, hr0⟩ : ∃ r, r = k + D.nums (Co.ds fs1) := ⟨_, rfl⟩
  unfold MkPost at hc0
  rw [← hr0] at hc0
  have HC0 := hid hc0
  clear hc0
  have hr0b : r0 ≤ k + 2 * Co.bulks fs1 := by omega
  have HRX0 := hid hr0
  clear hr0
  subst hw1
  go_enter Try.func16, Try.ntmps16
  go_wp2_with fail
  refine HC0.out.mono ?_
  rintro e u0 ⟨rfl, _, hm⟩
  have MM := hid hm
  have HX1 := hid (Boxes.mk HX0.out hm (fun p hp hy => by
    have : p.1 = w.heap.size := by simpa using congrArg Prod.fst (List.mem_singleton.1 hp)
    have := HBx.out p.1 (by simp [hy]); omega))
  have HM1 := hid (hm.mono (F := P0) fun x hx => by simp [hx])
  clear hm
  go_wp2_with fail
  go_ret
  exact ⟨r0, rfl, by omega, (Mk.of_below HB.out).trans HM1.out⟩
end Go.Proofs.Ytejdbmeoaekhcaa
/- was: HdCo -/
namespace Go.Proofs.Ytejdbmeoaekhcaa
open Go.Sort (grow)
open Go.ChangeShapes Go.WideShapes Go.ChangeAt Go.RowKit
set_option linter.unusedVariables false

theorem heldIns (L0 : List Int) (a : Option Addr) (c : Nat) (k : Nat) (w : World) (hk : k + L0.length ≤ 1099511627776) (hr : RdL w (D.marks k (In.ds L0)) (.slice a L0.length c)) :
    Calls Try.prog 59 #[.slice a L0.length c, .int .i64 k] w fun e w' => e = .returned (.int .i64 (k + L0.length : Nat)) ∧ w = w' := by
  rw [marks_In] at hr
  obtain ⟨a', c', e, h2, h3, h4⟩ := hr.eIn
  rw [iotaI_length] at e h2 h4
  simp only [Value.slice.injEq, true_and] at e
  obtain ⟨rfl, rfl⟩ := e
  have H4 := hid h4
  have HIO := hid (iotaI_get L0.length k)
  clear hr h4
  go_enter Try.func59, Try.ntmps59
  go_wp2_with fail
  go_loopw [1, 5] (fun q i wr => ∃ (j m : Nat), j ≤ L0.length ∧ i = .int .i64 j ∧ q = .int .i64 m ∧ Hid (m = k + j) ∧ w = wr) (fun _ i _ => L0.length - (intOf i).toNat)
  case atStart => exact ⟨0, k, by omega, rfl, rfl, rfl, rfl⟩
  case round =>
    obtain ⟨j, m, hj, rfl, rfl, HM, rfl⟩ := hrel
    have hm : m ≤ 1099511627776 := by have := HM.out; omega
    by_cases hlt : j < L0.length
    case neg =>
      have HE := hid (show m = k + L0.length by have := HM.out; omega)
      go_wp2_with fail
      go_ret
      exact ⟨by rw [← HE.out]; rfl, rfl⟩
    case pos =>
      obtain ⟨b, o, rfl, hbl, hall⟩ := H4.out (by omega)
      have q0 := (hall j _ (HIO.out j hlt)).1
      rw [← HM.out] at q0
      clear hall H4
      go_wp2_with fail
      go_roundw
      case rel => exact ⟨j + 1, m + 1, by omega, by go_num, by go_num, hid (by have := HM.out; omega), by first | rfl | trivial⟩
      case measure => simp [intOf]; omega
mutual
def Co.mrk : Nat → Co → Co
  | k, .mk _ _ ds ks => .mk (k : Int) ((k : Int) + 1) (iotaI (k + 2) ds.length) (Co.mrks (k + 2 + ds.length) ks)
def Co.mrks : Nat → List Co → List Co
  | _, [] => []
  | k, t :: ts => Co.mrk k t :: Co.mrks (k + D.num (Co.d t)) ts
end
mutual
theorem Co.d_mark : ∀ (t : Co) (k : Nat), D.mark k (Co.d t) = Co.d (Co.mrk k t)
  | .mk k0 v0 ds ks, k => by
    have h := Co.ds_marks ks (k + 2 + ds.length)
    simp only [Co.d, Co.mrk, D.mark, D.marks, D.num, marks_In, nums_In]
    rw [show k + 1 + 1 = k + 2 from rfl, h]
    simp
theorem Co.ds_marks : ∀ (ts : List Co) (k : Nat), D.marks k (Co.ds ts) = Co.ds (Co.mrks k ts)
  | [], k => rfl
  | t :: ts, k => by rw [Co.ds, D.marks, Co.mrks, Co.ds, Co.d_mark t k, Co.ds_marks ts]
end
theorem Co.mrks_length : ∀ (ts : List Co) (k : Nat), (Co.mrks k ts).length = ts.length
  | [], _ => rfl
  | t :: ts, k => by simp [Co.mrks, Co.mrks_length ts]
theorem Co.mrks_get : ∀ (ts : List Co) (k j : Nat) (t : Co), ts[j]? = some t → (Co.mrks k ts)[j]? = some (Co.mrk (k + D.nums (Co.ds (ts.take j))) t)
  | [], k, j, t, h => by simp at h
  | u :: ts, k, 0, t, h => by simp at h; subst h; simp [Co.mrks, Co.ds, D.nums]
  | u :: ts, k, j + 1, t, h => by
    rw [Co.mrks, List.getElem?_cons_succ, Co.mrks_get ts _ j t (by simpa using h), List.take_succ_cons, Co.ds, D.nums, Nat.add_assoc]
theorem Co.nums_take (ts : List Co) (j : Nat) (t : Co) (h : ts[j]? = some t) : D.nums (Co.ds (ts.take (j + 1))) = D.nums (Co.ds (ts.take j)) + D.num (Co.d t) := by
  rw [Co.ds_snoc ts j t h, D.nums_append]; simp [D.nums]
theorem Co.nums_take_le : ∀ (ts : List Co) (j : Nat), D.nums (Co.ds (ts.take j)) ≤ D.nums (Co.ds ts)
  | [], j => by simp
  | t :: ts, 0 => by simp [Co.ds, D.nums]
  | t :: ts, j + 1 => by have := Co.nums_take_le ts j; simp [Co.ds, D.nums]; omega
theorem Co.num_mk (k v : Int) (ds : List Int) (ks : List Co) : D.num (Co.d (.mk k v ds ks)) = 2 + ds.length + D.nums (Co.ds ks) := by simp [Co.d, D.num, D.nums, nums_In]; omega
def HdCoW (N : Nat) : Prop := ∀ (ts : List Co) (a : Option Addr) (c : Nat) (k : Nat) (w : World), D.nums (Co.ds ts) < N → k + D.nums (Co.ds ts) ≤ 1099511627776 → RdL w (Co.ds (Co.mrks k ts)) (.slice a ts.length c) →
  Calls Try.prog 60 #[.slice a ts.length c, .int .i64 k] w fun e w' => e = .returned (.int .i64 (k + D.nums (Co.ds ts) : Nat)) ∧ Below w.heap.size w w'
set_option maxRecDepth 100000 in
set_option maxHeartbeats 4000000 in
theorem heldCos_step (N : Nat) (ih : HdCoW N) : HdCoW (N + 1) := by
  intro ts a c k w hN hk hr
  obtain ⟨a', c', e, h2, h3, h4⟩ := hr.eCo
  rw [Co.mrks_length] at e h2 h4
  simp only [Value.slice.injEq, true_and] at e
  obtain ⟨rfl, rfl⟩ := e
  have H4 := hid h4
  have IH := hid ih
  have HK := hid hk
  have HN := hid hN
  clear hr h4 ih hN hk
  go_enter Try.func60, Try.ntmps60
  go_wp2_with fail
  go_loopw [1, 5] (fun q i wr => ∃ (j m : Nat), j ≤ ts.length ∧ i = .int .i64 j ∧ q = .int .i64 m ∧ Hid (m = k + D.nums (Co.ds (ts.take j))) ∧ Below w.heap.size w wr) (fun _ i _ => ts.length - (intOf i).toNat)
  case atStart => exact ⟨0, k, by omega, rfl, rfl, hid (by simp [Co.ds, D.nums]), Below.refl _ _⟩
  case round =>
    obtain ⟨j, m, hj, rfl, rfl, HM, hb⟩ := hrel
    have hm : m ≤ 1099511627776 := by have := HM.out; have := Co.nums_take_le ts j; have := HK.out; omega
    by_cases hlt : j < ts.length
    case neg =>
      have HE := hid (show m = k + D.nums (Co.ds ts) by have h := HM.out; rw [show j = ts.length by omega, List.take_length] at h; exact h)
      go_wp2_with fail
      go_ret
      exact ⟨by rw [← HE.out]; rfl, hb⟩
    case pos =>
      obtain ⟨t, ht⟩ : ∃ t, ts[j]? = some t := ⟨_, List.getElem?_eq_getElem hlt⟩
      have hmt := Co.mrks_get ts k j t ht
      rw [← HM.out] at hmt
      have hnt := Co.nums_take ts j t ht
      have hnl := Co.nums_take_le ts (j + 1)
      obtain ⟨k3, v3, ds3, ks3⟩ := t
      rw [Co.num_mk] at hnt
      rw [Co.mrk] at hmt
      obtain ⟨b, o, rfl, hbl, hall⟩ := H4.out (by omega)
      obtain ⟨ads3, cds3, aks3, cks3, q0, q1, q2, q3, hrk⟩ := hall j _ _ _ _ hmt
      rw [Co.mrks_length] at q3 hrk
      rw [iotaI_length] at q2 hrk
      have hrf : RdL w (In.ds (iotaI (m + 2) ds3.length)) (.slice ads3 ds3.length cds3) ∧ RdL w (Co.ds (Co.mrks (m + 2 + ds3.length) ks3)) (.slice aks3 ks3.length cks3) := by
        obtain ⟨F, h⟩ := hrk
        obtain ⟨a8, c8, a9, c9, e9, h9⟩ := h.Co_inv
        simp only [List.cons.injEq, Value.slice.injEq, true_and, and_true] at e9
        obtain ⟨⟨rfl, -, rfl⟩, rfl, -, rfl⟩ := e9
        rw [Co.mrks_length, iotaI_length] at h9
        exact h9.2.2
      obtain ⟨hrd, hrl⟩ := hrf
      rw [← marks_In] at hrd
      have hm2 : m + 2 + ds3.length + D.nums (Co.ds ks3) ≤ 1099511627776 := by have := HM.out; have := HK.out; omega
      have hkid : D.nums (Co.ds ks3) < N := by have := HN.out; omega
      have d0 := (hb.cell (p := ⟨b, o + j * 4, none⟩) hbl).trans q0
      have d1 := (hb.cell (p := ⟨b, o + j * 4 + 1, none⟩) hbl).trans q1
      have d2 := (hb.cell (p := ⟨b, o + j * 4 + 2, none⟩) hbl).trans q2
      have d3 := (hb.cell (p := ⟨b, o + j * 4 + 3, none⟩) hbl).trans q3
      have hi := heldIns ds3 ads3 cds3 (m + 2) wr (by omega) (hrd.below hb)
      rw [show ((m + 2 : Nat) : Int) = (m : Int) + 1 + 1 from by omega] at hi
      obtain ⟨mi, hmi⟩ : ∃ mi, mi = m + 2 + ds3.length := ⟨_, rfl⟩
      rw [← hmi] at hi
      have hic := IH.out ks3 aks3 cks3 (m + 2 + ds3.length) wr hkid hm2 (hrl.below hb)
      rw [← hmi] at hic
      obtain ⟨mx, hmx⟩ : ∃ mx, mx = mi + D.nums (Co.ds ks3) := ⟨_, rfl⟩
      rw [← hmx] at hic
      have HMX := hid (show mx = k + D.nums (Co.ds (ts.take (j + 1))) by have := HM.out; omega)
      have hmib : mi ≤ 1099511627776 := by omega
      have hmxb : mx ≤ 1099511627776 := by omega
      have hmi0 : decide ((mi : Int) < 0) = false := decide_eq_false (by omega)
      have hmx0 : decide ((mx : Int) < 0) = false := decide_eq_false (by omega)
      have HII := hid hi
      have HIC := hid hic
      clear hall H4 q0 q1 q2 q3 hrk hrl hrd hmt hnt hnl hi hic hmi hmx hm2 hkid ht
      go_wp2_with fail
      refine HII.out.mono ?_
      rintro e w1 ⟨rfl, rfl⟩
      clear HII
      go_wp2_with fail
      refine HIC.out.mono ?_
      rintro e w2 ⟨rfl, hb2⟩
      have HB2 := hid (hb.trans (hb2.mono hb.size))
      clear hb2 HIC d0 d1 d2 d3
      go_wp2_with fail
      go_roundw
      case rel => exact ⟨j + 1, mx, by omega, by go_num, rfl, HMX, HB2.out⟩
      case measure => simp [intOf]; omega
theorem heldCos_all : ∀ N, HdCoW N
  | 0 => fun _ _ _ _ _ h => absurd h (by omega)
  | N + 1 => heldCos_step N (heldCos_all N)
theorem heldCos (ts : List Co) (a : Option Addr) (c : Nat) (k : Nat) (w : World) (hk : k + D.nums (Co.ds ts) ≤ 1099511627776) (hr : RdL w (D.marks k (Co.ds ts)) (.slice a ts.length c)) :
    Calls Try.prog 60 #[.slice a ts.length c, .int .i64 k] w fun e w' => e = .returned (.int .i64 (k + D.nums (Co.ds ts) : Nat)) ∧ Below w.heap.size w w' :=
  heldCos_all (D.nums (Co.ds ts) + 1) ts a c k w (by omega) hk (by rw [← Co.ds_marks]; exact hr)
end Go.Proofs.Ytejdbmeoaekhcaa
/- was: HdNe -/
namespace Go.Proofs.Ytejdbmeoaekhcaa
open Go.Sort (grow)
open Go.ChangeShapes Go.WideShapes Go.ChangeAt Go.RowKit
set_option linter.unusedVariables false

theorem nil_markInt64S (k : Nat) (w : World) : Calls Try.prog 36 #[.slice none 0 0, .int .i64 k] w fun e w' => e = .returned (.int .i64 k) ∧ w = w' := by
  go_enter Try.func36, Try.ntmps36
  go_wp2_with fail
  go_loopw [1, 5] (fun q i wr => ∃ (j : Nat), j = 0 ∧ i = .int .i64 j ∧ q = .int .i64 k ∧ w = wr) (fun _ i _ => 0)
  case atStart => exact ⟨0, rfl, rfl, rfl, rfl⟩
  case round =>
    obtain ⟨j, hj, rfl, rfl, rfl⟩ := hrel
    have hlt : ¬ j < 0 := by omega
    go_wp2_with fail
    go_ret
    exact ⟨rfl, rfl⟩
theorem nil_markFrameS (k : Nat) (w : World) : Calls Try.prog 38 #[.slice none 0 0, .int .i64 k] w fun e w' => e = .returned (.int .i64 k) ∧ w = w' := by
  go_enter Try.func38, Try.ntmps38
  go_wp2_with fail
  go_loopw [1, 5] (fun q i wr => ∃ (j : Nat), j = 0 ∧ i = .int .i64 j ∧ q = .int .i64 k ∧ w = wr) (fun _ i _ => 0)
  case atStart => exact ⟨0, rfl, rfl, rfl, rfl⟩
  case round =>
    obtain ⟨j, hj, rfl, rfl, rfl⟩ := hrel
    have hlt : ¬ j < 0 := by omega
    go_wp2_with fail
    go_ret
    exact ⟨rfl, rfl⟩
theorem nil_markThunkS (k : Nat) (w : World) : Calls Try.prog 39 #[.slice none 0 0, .int .i64 k] w fun e w' => e = .returned (.int .i64 k) ∧ w = w' := by
  go_enter Try.func39, Try.ntmps39
  go_wp2_with fail
  go_loopw [1, 5] (fun q i wr => ∃ (j : Nat), j = 0 ∧ i = .int .i64 j ∧ q = .int .i64 k ∧ w = wr) (fun _ i _ => 0)
  case atStart => exact ⟨0, rfl, rfl, rfl, rfl⟩
  case round =>
    obtain ⟨j, hj, rfl, rfl, rfl⟩ := hrel
    have hlt : ¬ j < 0 := by omega
    go_wp2_with fail
    go_ret
    exact ⟨rfl, rfl⟩
theorem nil_heldInt64S (k : Nat) (w : World) : Calls Try.prog 59 #[.slice none 0 0, .int .i64 k] w fun e w' => e = .returned (.int .i64 k) ∧ w = w' := by
  go_enter Try.func59, Try.ntmps59
  go_wp2_with fail
  go_loopw [1, 5] (fun q i wr => ∃ (j : Nat), j = 0 ∧ i = .int .i64 j ∧ q = .int .i64 k ∧ w = wr) (fun _ i _ => 0)
  case atStart => exact ⟨0, rfl, rfl, rfl, rfl⟩
  case round =>
    obtain ⟨j, hj, rfl, rfl, rfl⟩ := hrel
    have hlt : ¬ j < 0 := by omega
    go_wp2_with fail
    go_ret
    exact ⟨rfl, rfl⟩
theorem nil_heldFrameS (k : Nat) (w : World) : Calls Try.prog 41 #[.slice none 0 0, .int .i64 k] w fun e w' => e = .returned (.int .i64 k) ∧ w = w' := by
  go_enter Try.func41, Try.ntmps41
  go_wp2_with fail
  go_loopw [1, 5] (fun q i wr => ∃ (j : Nat), j = 0 ∧ i = .int .i64 j ∧ q = .int .i64 k ∧ w = wr) (fun _ i _ => 0)
  case atStart => exact ⟨0, rfl, rfl, rfl, rfl⟩
  case round =>
    obtain ⟨j, hj, rfl, rfl, rfl⟩ := hrel
    have hlt : ¬ j < 0 := by omega
    go_wp2_with fail
    go_ret
    exact ⟨rfl, rfl⟩
theorem nil_heldThunkS (k : Nat) (w : World) : Calls Try.prog 42 #[.slice none 0 0, .int .i64 k] w fun e w' => e = .returned (.int .i64 k) ∧ w = w' := by
  go_enter Try.func42, Try.ntmps42
  go_wp2_with fail
  go_loopw [1, 5] (fun q i wr => ∃ (j : Nat), j = 0 ∧ i = .int .i64 j ∧ q = .int .i64 k ∧ w = wr) (fun _ i _ => 0)
  case atStart => exact ⟨0, rfl, rfl, rfl, rfl⟩
  case round =>
    obtain ⟨j, hj, rfl, rfl, rfl⟩ := hrel
    have hlt : ¬ j < 0 := by omega
    go_wp2_with fail
    go_ret
    exact ⟨rfl, rfl⟩
/-- What marking leaves: the number, both lists marked, the rest as it was. -/
def MkTwo (w : World) (m : Nat) (ds1 : List Int) (ks1 : List Co) (ads1 : Option Addr) (cds1 : Nat) (aks1 : Option Addr) (cks1 : Nat) (F1 F2 : List Nat) (e : Ending) (w' : World) : Prop :=
  e = .returned (.int .i64 (m + ds1.length + D.nums (Co.ds ks1) : Nat)) ∧ Rd w' (.list (D.marks m (In.ds ds1))) [.slice ads1 ds1.length cds1] F1 ∧ Rd w' (.list (D.marks (m + ds1.length) (Co.ds ks1))) [.slice aks1 ks1.length cks1] F2 ∧ Mk (F1 ++ F2) w w'
set_option maxHeartbeats 1000000 in
theorem markCo_out (k1 v1 : Int) (ds1 : List Int) (ks1 : List Co) (ads1 : Option Addr) (cds1 : Nat) (aks1 : Option Addr) (cks1 : Nat) (F1 F2 : List Nat) (m : Nat) (w : World) (hl1 : ds1.length ≤ 9223372036854775807) (hl2 : ks1.length ≤ 9223372036854775807) (hk : m + ds1.length + D.nums (Co.ds ks1) ≤ 1099511627776) (r1 : Rd w (.list (In.ds ds1)) [.slice ads1 ds1.length cds1] F1) (r2 : Rd w (.list (Co.ds ks1)) [.slice aks1 ks1.length cks1] F2) (ho : Owned w 0 (F1 ++ F2)) :
    Calls Try.prog 17 #[.agg #[.int .i64 k1, .int .i64 v1, .slice ads1 ds1.length cds1, .slice aks1 ks1.length cks1], .int .i64 m] w (MkTwo w m ds1 ks1 ads1 cds1 aks1 cks1 F1 F2) := by
  have hB : Below w.heap.size w (w.alloc (.cells #[.int .i64 k1, .int .i64 v1, .slice ads1 ds1.length cds1, .slice aks1 ks1.length cks1] 36)) := (Below.refl _ _).alloc (Nat.le_refl _) _
  have hx0 := (Boxes.nil w).alloc #[.int .i64 k1, .int .i64 v1, .slice ads1 ds1.length cds1, .slice aks1 ks1.length cks1] 36 (0, 0)
  have hlt1 := r1.lt
  have hlt2 := r2.lt
  have q1 := r1.below hB
  have q2 := r2.below hB
  have ow := ho.keep (w' := w.alloc (.cells #[.int .i64 k1, .int .i64 v1, .slice ads1 ds1.length cds1, .slice aks1 ks1.length cks1] 36)) fun x hx => hB.block x (by rcases List.mem_append.1 hx with h | h; exact hlt1 x h; exact hlt2 x h)
  have hnd := List.nodup_append.1 ho.1
  have HLT := hid (fun x (hx : x ∈ F1 ++ F2) => (by rcases List.mem_append.1 hx with h | h; exact hlt1 x h; exact hlt2 x h : x < w.heap.size))
  have o1 : Owned (w.alloc (.cells #[.int .i64 k1, .int .i64 v1, .slice ads1 ds1.length cds1, .slice aks1 ks1.length cks1] 36)) 0 F1 := ⟨hnd.1, fun x hx => ow.2 x (by simp [hx])⟩
  have o2 : Owned (w.alloc (.cells #[.int .i64 k1, .int .i64 v1, .slice ads1 ds1.length cds1, .slice aks1 ks1.length cks1] 36)) 0 F2 := ⟨hnd.2.1, fun x hx => ow.2 x (by simp [hx])⟩
  have hc1 := markIns ds1 ads1 cds1 F1 m _ hl1 (by rw [nums_In]; omega) q1 o1
  unfold MkPost at hc1
  rw [nums_In] at hc1
  obtain ⟨mi, hmi⟩ : ∃ mi, mi = m + ds1.length := ⟨_, rfl⟩
  rw [← hmi] at hc1
  obtain ⟨mx, hmx⟩ : ∃ mx, mx = mi + D.nums (Co.ds ks1) := ⟨_, rfl⟩
  have HMX := hid hmx
  have HMI := hid hmi
  have hmib : mi ≤ 1099511627776 := by omega
  have hmxb : mx ≤ 1099511627776 := by omega
  have HC1 := hid hc1
  have HX0 := hid hx0
  have HB := hid hB
  have Q2 := hid q2
  have O2 := hid o2
  have HND := hid hnd
  have HL2 := hid hl2
  clear hc1 hx0 hB q1 q2 o1 o2 ow hnd r1 r2 ho hlt1 hlt2 hl1 hl2 hk hmx hmi
  go_enter Try.func17, Try.ntmps17
  have g0_0 := HX0.out.at 0 0 rfl rfl
  have g0_1 := HX0.out.at 0 1 rfl rfl
  have g0_2 := HX0.out.at 0 2 rfl rfl
  have g0_3 := HX0.out.at 0 3 rfl rfl
  go_wp2_with fail
  refine HC1.out.mono ?_
  rintro e u1 ⟨rfl, hrd, hm⟩
  have HX1 := hid (Boxes.mk HX0.out hm (fun p hp hy => by
    have h1 : p.1 = w.heap.size := by simpa using congrArg Prod.fst (List.mem_singleton.1 hp)
    have h2 := HLT.out p.1 (by simp [hy]); omega))
  have HR1 := hid hrd
  have HM1 := hid hm
  have q2 := hm.rd Q2.out (fun x hx hy => HND.out.2.2 x hy x hx rfl)
  have o2 := hm.own O2.out
  have hc2 := markCos ks1 aks1 cks1 F2 mi u1 HL2.out (by have := HMX.out; omega) q2 o2
  unfold MkPost at hc2
  rw [← HMX.out] at hc2
  have HC2 := hid hc2
  clear hc2 q2 o2 hm hrd g0_0 g0_1 g0_2 g0_3 HC1
  have g1_0 := HX1.out.at 0 0 rfl rfl
  have g1_1 := HX1.out.at 0 1 rfl rfl
  have g1_2 := HX1.out.at 0 2 rfl rfl
  have g1_3 := HX1.out.at 0 3 rfl rfl
  go_wp2_with fail
  refine HC2.out.mono ?_
  rintro e u2 ⟨rfl, hrd2, hm2⟩
  have HP := hid (show MkTwo w m ds1 ks1 ads1 cds1 aks1 cks1 F1 F2 (.returned (.int .i64 mx)) u2 from ⟨by rw [HMX.out, HMI.out], hm2.rd HR1.out (fun x hx hy => HND.out.2.2 x hx x hy rfl), by rw [← HMI.out]; exact hrd2, (Mk.of_below HB.out).trans ((HM1.out.mono fun x hx => by simp [hx]).trans (hm2.mono fun x hx => by simp [hx]))⟩)
  clear hrd2 hm2
  go_wp2_with fail
  go_ret
  exact HP.out

set_option maxHeartbeats 1000000 in
theorem markCl_out (k1 v1 : Int) (ds1 : List Int) (ks1 : List Co) (ads1 : Option Addr) (cds1 : Nat) (aks1 : Option Addr) (cks1 : Nat) (F1 F2 : List Nat) (m : Nat) (w : World) (hl1 : ds1.length ≤ 9223372036854775807) (hl2 : ks1.length ≤ 9223372036854775807) (hk : m + ds1.length + D.nums (Co.ds ks1) ≤ 1099511627776) (r1 : Rd w (.list (In.ds ds1)) [.slice ads1 ds1.length cds1] F1) (r2 : Rd w (.list (Co.ds ks1)) [.slice aks1 ks1.length cks1] F2) (ho : Owned w 0 (F1 ++ F2)) :
    Calls Try.prog 37 #[.agg #[.int .i64 k1, .int .i64 v1, .slice ads1 ds1.length cds1, .slice aks1 ks1.length cks1, .slice none 0 0], .int .i64 m] w (MkTwo w m ds1 ks1 ads1 cds1 aks1 cks1 F1 F2) := by
  have hB : Below w.heap.size w (w.alloc (.cells #[.int .i64 k1, .int .i64 v1, .slice ads1 ds1.length cds1, .slice aks1 ks1.length cks1, .slice none 0 0] 42)) := (Below.refl _ _).alloc (Nat.le_refl _) _
  have hx0 := (Boxes.nil w).alloc #[.int .i64 k1, .int .i64 v1, .slice ads1 ds1.length cds1, .slice aks1 ks1.length cks1, .slice none 0 0] 42 (0, 0)
  have hlt1 := r1.lt
  have hlt2 := r2.lt
  have q1 := r1.below hB
  have q2 := r2.below hB
  have ow := ho.keep (w' := w.alloc (.cells #[.int .i64 k1, .int .i64 v1, .slice ads1 ds1.length cds1, .slice aks1 ks1.length cks1, .slice none 0 0] 42)) fun x hx => hB.block x (by rcases List.mem_append.1 hx with h | h; exact hlt1 x h; exact hlt2 x h)
  have hnd := List.nodup_append.1 ho.1
  have HLT := hid (fun x (hx : x ∈ F1 ++ F2) => (by rcases List.mem_append.1 hx with h | h; exact hlt1 x h; exact hlt2 x h : x < w.heap.size))
  have hc1 := markCo_out k1 v1 ds1 ks1 ads1 cds1 aks1 cks1 F1 F2 m _ hl1 hl2 hk q1 q2 ow
  unfold MkTwo at hc1
  obtain ⟨mx, hmx⟩ : ∃ mx, mx = m + ds1.length + D.nums (Co.ds ks1) := ⟨_, rfl⟩
  rw [← hmx] at hc1
  have HMX := hid hmx
  have hmxb : mx ≤ 1099511627776 := by omega
  have HC1 := hid hc1
  have HX0 := hid hx0
  have HB := hid hB
  have HN1 := hid (fun W => nil_markInt64S mx W)
  clear hc1 hx0 hB q1 q2 ow hnd r1 r2 ho hlt1 hlt2 hl1 hl2 hk hmx
  go_enter Try.func37, Try.ntmps37
  have g0_0 := HX0.out.at 0 0 rfl rfl
  have g0_1 := HX0.out.at 0 1 rfl rfl
  have g0_2 := HX0.out.at 0 2 rfl rfl
  have g0_3 := HX0.out.at 0 3 rfl rfl
  have g0_4 := HX0.out.at 0 4 rfl rfl
  go_wp2_with fail
  refine HC1.out.mono ?_
  rintro e u1 ⟨rfl, hrd, hrd2, hm⟩
  have HX1 := hid (Boxes.mk HX0.out hm (fun p hp hy => by
    have h1 : p.1 = w.heap.size := by simpa using congrArg Prod.fst (List.mem_singleton.1 hp)
    have h2 := HLT.out p.1 (by simp [hy]); omega))
  have HP := hid (show MkTwo w m ds1 ks1 ads1 cds1 aks1 cks1 F1 F2 (.returned (.int .i64 mx)) u1 from ⟨by rw [HMX.out], hrd, hrd2, (Mk.of_below HB.out).trans hm⟩)
  clear hm hrd hrd2 g0_0 g0_1 g0_2 g0_3 g0_4 HC1
  have g1_0 := HX1.out.at 0 0 rfl rfl
  have g1_1 := HX1.out.at 0 1 rfl rfl
  have g1_2 := HX1.out.at 0 2 rfl rfl
  have g1_3 := HX1.out.at 0 3 rfl rfl
  have g1_4 := HX1.out.at 0 4 rfl rfl
  go_wp2_with fail
  refine (HN1.out _).mono ?_
  rintro e u2 ⟨rfl, rfl⟩
  go_wp2_with fail
  go_ret
  exact HP.out

set_option maxHeartbeats 1000000 in
theorem markNe_out (k1 v1 : Int) (ds1 : List Int) (ks1 : List Co) (ads1 : Option Addr) (cds1 : Nat) (aks1 : Option Addr) (cks1 : Nat) (F1 F2 : List Nat) (m : Nat) (w : World) (hl1 : ds1.length ≤ 9223372036854775807) (hl2 : ks1.length ≤ 9223372036854775807) (hk : m + ds1.length + D.nums (Co.ds ks1) ≤ 1099511627776) (r1 : Rd w (.list (In.ds ds1)) [.slice ads1 ds1.length cds1] F1) (r2 : Rd w (.list (Co.ds ks1)) [.slice aks1 ks1.length cks1] F2) (ho : Owned w 0 (F1 ++ F2)) :
    Calls Try.prog 18 #[.agg #[.int .i64 k1, .int .i64 v1, .slice ads1 ds1.length cds1, .slice aks1 ks1.length cks1, .slice none 0 0, .slice none 0 0, .slice none 0 0], .int .i64 m] w (MkTwo w m ds1 ks1 ads1 cds1 aks1 cks1 F1 F2) := by
  have hB : Below w.heap.size w (w.alloc (.cells #[.int .i64 k1, .int .i64 v1, .slice ads1 ds1.length cds1, .slice aks1 ks1.length cks1, .slice none 0 0, .slice none 0 0, .slice none 0 0] 46)) := (Below.refl _ _).alloc (Nat.le_refl _) _
  have hx0 := (Boxes.nil w).alloc #[.int .i64 k1, .int .i64 v1, .slice ads1 ds1.length cds1, .slice aks1 ks1.length cks1, .slice none 0 0, .slice none 0 0, .slice none 0 0] 46 (0, 0)
  have hlt1 := r1.lt
  have hlt2 := r2.lt
  have q1 := r1.below hB
  have q2 := r2.below hB
  have ow := ho.keep (w' := w.alloc (.cells #[.int .i64 k1, .int .i64 v1, .slice ads1 ds1.length cds1, .slice aks1 ks1.length cks1, .slice none 0 0, .slice none 0 0, .slice none 0 0] 46)) fun x hx => hB.block x (by rcases List.mem_append.1 hx with h | h; exact hlt1 x h; exact hlt2 x h)
  have hnd := List.nodup_append.1 ho.1
  have HLT := hid (fun x (hx : x ∈ F1 ++ F2) => (by rcases List.mem_append.1 hx with h | h; exact hlt1 x h; exact hlt2 x h : x < w.heap.size))
  have hc1 := markCl_out k1 v1 ds1 ks1 ads1 cds1 aks1 cks1 F1 F2 m _ hl1 hl2 hk q1 q2 ow
  unfold MkTwo at hc1
  obtain ⟨mx, hmx⟩ : ∃ mx, mx = m + ds1.length + D.nums (Co.ds ks1) := ⟨_, rfl⟩
  rw [← hmx] at hc1
  have HMX := hid hmx
  have hmxb : mx ≤ 1099511627776 := by omega
  have HC1 := hid hc1
  have HX0 := hid hx0
  have HB := hid hB
  have HN1 := hid (fun W => nil_markFrameS mx W)
  have HN2 := hid (fun W => nil_markThunkS mx W)
  clear hc1 hx0 hB q1 q2 ow hnd r1 r2 ho hlt1 hlt2 hl1 hl2 hk hmx
  go_enter Try.func18, Try.ntmps18
  have g0_0 := HX0.out.at 0 0 rfl rfl
  have g0_1 := HX0.out.at 0 1 rfl rfl
  have g0_2 := HX0.out.at 0 2 rfl rfl
  have g0_3 := HX0.out.at 0 3 rfl rfl
  have g0_4 := HX0.out.at 0 4 rfl rfl
  have g0_5 := HX0.out.at 0 5 rfl rfl
  have g0_6 := HX0.out.at 0 6 rfl rfl
  go_wp2_with fail
  refine HC1.out.mono ?_
  rintro e u1 ⟨rfl, hrd, hrd2, hm⟩
  have HX1 := hid (Boxes.mk HX0.out hm (fun p hp hy => by
    have h1 : p.1 = w.heap.size := by simpa using congrArg Prod.fst (List.mem_singleton.1 hp)
    have h2 := HLT.out p.1 (by simp [hy]); omega))
  have HP := hid (show MkTwo w m ds1 ks1 ads1 cds1 aks1 cks1 F1 F2 (.returned (.int .i64 mx)) u1 from ⟨by rw [HMX.out], hrd, hrd2, (Mk.of_below HB.out).trans hm⟩)
  clear hm hrd hrd2 g0_0 g0_1 g0_2 g0_3 g0_4 g0_5 g0_6 HC1
  have g1_0 := HX1.out.at 0 0 rfl rfl
  have g1_1 := HX1.out.at 0 1 rfl rfl
  have g1_2 := HX1.out.at 0 2 rfl rfl
  have g1_3 := HX1.out.at 0 3 rfl rfl
  have g1_4 := HX1.out.at 0 4 rfl rfl
  have g1_5 := HX1.out.at 0 5 rfl rfl
  have g1_6 := HX1.out.at 0 6 rfl rfl
  go_wp2_with fail
  refine (HN1.out _).mono ?_
  rintro e u2 ⟨rfl, rfl⟩
  go_wp2_with fail
  refine (HN2.out _).mono ?_
  rintro e u3 ⟨rfl, rfl⟩
  go_wp2_with fail
  go_ret
  exact HP.out

set_option maxHeartbeats 1000000 in
theorem heldCo (k1 v1 : Int) (ds1 : List Int) (ks1 : List Co) (ads1 : Option Addr) (cds1 : Nat) (aks1 : Option Addr) (cks1 : Nat) (m : Nat) (w : World) (hk : m + ds1.length + D.nums (Co.ds ks1) ≤ 1099511627776) (r1 : RdL w (D.marks m (In.ds ds1)) (.slice ads1 ds1.length cds1)) (r2 : RdL w (D.marks (m + ds1.length) (Co.ds ks1)) (.slice aks1 ks1.length cks1)) :
    Calls Try.prog 58 #[.agg #[.int .i64 k1, .int .i64 v1, .slice ads1 ds1.length cds1, .slice aks1 ks1.length cks1], .int .i64 m] w fun e w' => e = .returned (.int .i64 (m + ds1.length + D.nums (Co.ds ks1) : Nat)) ∧ Below w.heap.size w w' := by
  have hB : Below w.heap.size w (w.alloc (.cells #[.int .i64 k1, .int .i64 v1, .slice ads1 ds1.length cds1, .slice aks1 ks1.length cks1] 36)) := (Below.refl _ _).alloc (Nat.le_refl _) _
  have HX0 := hid ((Boxes.nil w).alloc #[.int .i64 k1, .int .i64 v1, .slice ads1 ds1.length cds1, .slice aks1 ks1.length cks1] 36 (0, 0))
  have q1 := r1.below hB
  have q2 := r2.below hB
  obtain ⟨mi, hmi⟩ : ∃ mi, mi = m + ds1.length := ⟨_, rfl⟩
  obtain ⟨mx, hmx⟩ : ∃ mx, mx = m + ds1.length + D.nums (Co.ds ks1) := ⟨_, rfl⟩
  have hmib : mi ≤ 1099511627776 := by omega
  have hmxb : mx ≤ 1099511627776 := by omega
  have hmi0 : decide ((mi : Int) < 0) = false := decide_eq_false (by omega)
  have hmx0 : decide ((mx : Int) < 0) = false := decide_eq_false (by omega)
  have hc1 := heldIns ds1 ads1 cds1 m _ (by omega) q1
  have hc2 := heldCos ks1 aks1 cks1 (m + ds1.length) _ (by omega) q2
  rw [← hmi] at hc1
  rw [← hmx, ← hmi] at hc2
  have HC1 := hid hc1
  have HC2 := hid hc2
  rw [← hmx]
  have HB := hid hB
  clear hc1 hc2 q1 q2 hB r1 r2 hk hmx hmi
  go_enter Try.func58, Try.ntmps58
  have g0_0 := HX0.out.at 0 0 rfl rfl
  have g0_1 := HX0.out.at 0 1 rfl rfl
  have g0_2 := HX0.out.at 0 2 rfl rfl
  have g0_3 := HX0.out.at 0 3 rfl rfl
  go_wp2_with fail
  refine HC1.out.mono ?_
  rintro e u1 ⟨rfl, rfl⟩
  go_wp2_with fail
  refine HC2.out.mono ?_
  rintro e u2 ⟨rfl, hb⟩
  have HB2 := hid (HB.out.trans (hb.mono HB.out.size))
  clear hb
  go_wp2_with fail
  go_ret
  exact ⟨rfl, HB2.out⟩
set_option maxHeartbeats 1000000 in
theorem heldCl (k1 v1 : Int) (ds1 : List Int) (ks1 : List Co) (ads1 : Option Addr) (cds1 : Nat) (aks1 : Option Addr) (cks1 : Nat) (m : Nat) (w : World) (hk : m + ds1.length + D.nums (Co.ds ks1) ≤ 1099511627776) (r1 : RdL w (D.marks m (In.ds ds1)) (.slice ads1 ds1.length cds1)) (r2 : RdL w (D.marks (m + ds1.length) (Co.ds ks1)) (.slice aks1 ks1.length cks1)) :
    Calls Try.prog 40 #[.agg #[.int .i64 k1, .int .i64 v1, .slice ads1 ds1.length cds1, .slice aks1 ks1.length cks1, .slice none 0 0], .int .i64 m] w fun e w' => e = .returned (.int .i64 (m + ds1.length + D.nums (Co.ds ks1) : Nat)) ∧ Below w.heap.size w w' := by
  have hB : Below w.heap.size w (w.alloc (.cells #[.int .i64 k1, .int .i64 v1, .slice ads1 ds1.length cds1, .slice aks1 ks1.length cks1, .slice none 0 0] 42)) := (Below.refl _ _).alloc (Nat.le_refl _) _
  have HX0 := hid ((Boxes.nil w).alloc #[.int .i64 k1, .int .i64 v1, .slice ads1 ds1.length cds1, .slice aks1 ks1.length cks1, .slice none 0 0] 42 (0, 0))
  have q1 := r1.below hB
  have q2 := r2.below hB
  obtain ⟨mi, hmi⟩ : ∃ mi, mi = m + ds1.length := ⟨_, rfl⟩
  obtain ⟨mx, hmx⟩ : ∃ mx, mx = m + ds1.length + D.nums (Co.ds ks1) := ⟨_, rfl⟩
  have hmib : mi ≤ 1099511627776 := by omega
  have hmxb : mx ≤ 1099511627776 := by omega
  have hmi0 : decide ((mi : Int) < 0) = false := decide_eq_false (by omega)
  have hmx0 : decide ((mx : Int) < 0) = false := decide_eq_false (by omega)
  have hc1 := heldCo k1 v1 ds1 ks1 ads1 cds1 aks1 cks1 m _ hk q1 q2
  rw [← hmx] at hc1
  have HC1 := hid hc1
  have HN0 := hid (fun W => nil_heldInt64S mx W)
  rw [← hmx]
  have HB := hid hB
  clear hc1 q1 q2 hB r1 r2 hk hmx hmi
  go_enter Try.func40, Try.ntmps40
  have g0_0 := HX0.out.at 0 0 rfl rfl
  have g0_1 := HX0.out.at 0 1 rfl rfl
  have g0_2 := HX0.out.at 0 2 rfl rfl
  have g0_3 := HX0.out.at 0 3 rfl rfl
  have g0_4 := HX0.out.at 0 4 rfl rfl
  go_wp2_with fail
  refine HC1.out.mono ?_
  rintro e u1 ⟨rfl, hb⟩
  have HX1 := hid (HX0.out.below hb)
  have HB2 := hid (HB.out.trans (hb.mono HB.out.size))
  clear hb g0_0 g0_1 g0_2 g0_3 g0_4
  have g1_0 := HX1.out.at 0 0 rfl rfl
  have g1_1 := HX1.out.at 0 1 rfl rfl
  have g1_2 := HX1.out.at 0 2 rfl rfl
  have g1_3 := HX1.out.at 0 3 rfl rfl
  have g1_4 := HX1.out.at 0 4 rfl rfl
  go_wp2_with fail
  refine (HN0.out _).mono ?_
  rintro e v0 ⟨rfl, rfl⟩
  go_wp2_with fail
  go_ret
  exact ⟨rfl, HB2.out⟩
set_option maxHeartbeats 1000000 in
theorem heldNe (k1 v1 : Int) (ds1 : List Int) (ks1 : List Co) (ads1 : Option Addr) (cds1 : Nat) (aks1 : Option Addr) (cks1 : Nat) (m : Nat) (w : World) (hk : m + ds1.length + D.nums (Co.ds ks1) ≤ 1099511627776) (r1 : RdL w (D.marks m (In.ds ds1)) (.slice ads1 ds1.length cds1)) (r2 : RdL w (D.marks (m + ds1.length) (Co.ds ks1)) (.slice aks1 ks1.length cks1)) :
    Calls Try.prog 19 #[.agg #[.int .i64 k1, .int .i64 v1, .slice ads1 ds1.length cds1, .slice aks1 ks1.length cks1, .slice none 0 0, .slice none 0 0, .slice none 0 0], .int .i64 m] w fun e w' => e = .returned (.int .i64 (m + ds1.length + D.nums (Co.ds ks1) : Nat)) ∧ Below w.heap.size w w' := by
  have hB : Below w.heap.size w (w.alloc (.cells #[.int .i64 k1, .int .i64 v1, .slice ads1 ds1.length cds1, .slice aks1 ks1.length cks1, .slice none 0 0, .slice none 0 0, .slice none 0 0] 46)) := (Below.refl _ _).alloc (Nat.le_refl _) _
  have HX0 := hid ((Boxes.nil w).alloc #[.int .i64 k1, .int .i64 v1, .slice ads1 ds1.length cds1, .slice aks1 ks1.length cks1, .slice none 0 0, .slice none 0 0, .slice none 0 0] 46 (0, 0))
  have q1 := r1.below hB
  have q2 := r2.below hB
  obtain ⟨mi, hmi⟩ : ∃ mi, mi = m + ds1.length := ⟨_, rfl⟩
  obtain ⟨mx, hmx⟩ : ∃ mx, mx = m + ds1.length + D.nums (Co.ds ks1) := ⟨_, rfl⟩
  have hmib : mi ≤ 1099511627776 := by omega
  have hmxb : mx ≤ 1099511627776 := by omega
  have hmi0 : decide ((mi : Int) < 0) = false := decide_eq_false (by omega)
  have hmx0 : decide ((mx : Int) < 0) = false := decide_eq_false (by omega)
  have hc1 := heldCl k1 v1 ds1 ks1 ads1 cds1 aks1 cks1 m _ hk q1 q2
  rw [← hmx] at hc1
  have HC1 := hid hc1
  have HN0 := hid (fun W => nil_heldFrameS mx W)
  have HN1 := hid (fun W => nil_heldThunkS mx W)
  rw [← hmx]
  have HB := hid hB
  clear hc1 q1 q2 hB r1 r2 hk hmx hmi
  go_enter Try.func19, Try.ntmps19
  have g0_0 := HX0.out.at 0 0 rfl rfl
  have g0_1 := HX0.out.at 0 1 rfl rfl
  have g0_2 := HX0.out.at 0 2 rfl rfl
  have g0_3 := HX0.out.at 0 3 rfl rfl
  have g0_4 := HX0.out.at 0 4 rfl rfl
  have g0_5 := HX0.out.at 0 5 rfl rfl
  have g0_6 := HX0.out.at 0 6 rfl rfl
  go_wp2_with fail
  refine HC1.out.mono ?_
  rintro e u1 ⟨rfl, hb⟩
  have HX1 := hid (HX0.out.below hb)
  have HB2 := hid (HB.out.trans (hb.mono HB.out.size))
  clear hb g0_0 g0_1 g0_2 g0_3 g0_4 g0_5 g0_6
  have g1_0 := HX1.out.at 0 0 rfl rfl
  have g1_1 := HX1.out.at 0 1 rfl rfl
  have g1_2 := HX1.out.at 0 2 rfl rfl
  have g1_3 := HX1.out.at 0 3 rfl rfl
  have g1_4 := HX1.out.at 0 4 rfl rfl
  have g1_5 := HX1.out.at 0 5 rfl rfl
  have g1_6 := HX1.out.at 0 6 rfl rfl
  go_wp2_with fail
  refine (HN0.out _).mono ?_
  rintro e v0 ⟨rfl, rfl⟩
  go_wp2_with fail
  refine (HN1.out _).mono ?_
  rintro e v1 ⟨rfl, rfl⟩
  go_wp2_with fail
  go_ret
  exact ⟨rfl, HB2.out⟩
end Go.Proofs.Ytejdbmeoaekhcaa
