/- The first elements of a slice that is read; a set of names as a map of the call's own. Over whatever program. No condition. -/
import Derived.Test.YtikhofcjkcbpbaaGreatDoorSc
import Derived.Test.YtikhofcjkcbpbaaGreatDoorThree
import Derived.Maps.Own
import Derived.Maps.OwnOps
import Derived.Maps.Views
namespace Go.Proofs.YtikhofcjkcbpbaaGreatDoor
open Go.RowKit

theorem RdAll.split {w : World} : ∀ (ds es : List D) (xs : List Value) (F : List Nat), RdAll w (ds ++ es) xs F → ∃ x1 x2 F1 F2, xs = x1 ++ x2 ∧ F = F1 ++ F2 ∧ RdAll w ds x1 F1 ∧ RdAll w es x2 F2
  | [], es, xs, F, h => ⟨[], xs, [], F, rfl, rfl, RdAll.nil, h⟩
  | d :: ds, es, xs, F, h => by
    obtain ⟨c1, c2, F1, F2, rfl, rfl, h1, h2⟩ := RdAll.cons_inv h
    obtain ⟨x1, x2, G1, G2, rfl, rfl, k1, k2⟩ := RdAll.split ds es c2 F2 h2
    exact ⟨c1 ++ x1, x2, F1 ++ G1, G2, by simp, by simp, RdAll.cons h1 k1, k2⟩
theorem RdL.takeD {w : World} {ds : List D} {a : Option Addr} {n c : Nat} (h : RdL w ds (.slice a n c)) {i : Nat} (hi : i ≤ n) : RdL w (ds.take i) (.slice a i c) := by
  obtain ⟨F, h⟩ := h
  obtain ⟨a', cap, e, h2, h3, h4⟩ := h.list_inv
  simp only [List.cons.injEq, and_true, Value.slice.injEq] at e
  obtain ⟨rfl, rfl, rfl⟩ := e
  have hlen : (ds.take i).length = i := by simp; omega
  by_cases h0 : ds.take i = []
  · have hi0 : i = 0 := by rw [h0] at hlen; simpa using hlen.symm
    subst hi0
    rw [h0]
    exact ⟨[], Rd.nil_mk h3⟩
  · rcases h4 with ⟨hd, _⟩ | ⟨b, o, xs, F', hd, rfl, rfl, hb, hx, hr⟩
    · subst hd; simp at h0
    · have hs : RdAll w (ds.take i ++ ds.drop i) xs F' := by rw [List.take_append_drop]; exact hr
      obtain ⟨x1, x2, G1, G2, rfl, rfl, k1, k2⟩ := RdAll.split _ _ _ _ hs
      have := Rd.list_mk (w := w) (ds := ds.take i) (b := b) (o := o) (cap := c) (xs := x1) (F := G1) h0 (by omega) h3 hb (fun j v hj => hx j v (by rw [List.getElem?_append_left (List.getElem?_eq_some_iff.1 hj).1]; exact hj)) k1
      rw [hlen] at this
      exact ⟨b :: G1, this⟩

open Go.Maps in
/-- A set of names. -/
def seenD (seen : List ByteArray) : DataW Unit := setOf (.lit (.bool true)) (seen.map fun s => Lit.string s.data.toList)
theorem str_lit {s t : ByteArray} (h : s ≠ t) : (Lit.string s.data.toList) ≠ Lit.string t.data.toList := by
  intro e
  simp only [Lit.string.injEq] at e
  apply h
  cases s; cases t
  simp only [ByteArray.mk.injEq]
  exact Array.toList_inj.1 e
open Go.Maps in
theorem seen_fold (k : ByteArray) (z : DataW Unit) : ∀ (l : List ByteArray) (m : DataW Unit), IsMap m →
    (k ∈ l → ((l.map fun s => Lit.string s.data.toList).foldl (fun m x => m.put x (.lit (.bool true))) m).atKey (.string k.data.toList) z = .lit (.bool true)) ∧
    (k ∉ l → ((l.map fun s => Lit.string s.data.toList).foldl (fun m x => m.put x (.lit (.bool true))) m).atKey (.string k.data.toList) z = m.atKey (.string k.data.toList) z)
  | [], m, _ => ⟨fun h => by simp at h, fun _ => rfl⟩
  | x :: l, m, hm => by
    have ih := seen_fold k z l (m.put (.string x.data.toList) (.lit (.bool true))) (hm.put _ _)
    rw [List.map_cons, List.foldl_cons]
    refine ⟨fun h => ?_, fun h => ?_⟩
    · by_cases h1 : k ∈ l
      · exact ih.1 h1
      · have h2 : k = x := by
          rcases List.mem_cons.1 h with h | h
          · exact h
          · exact absurd h h1
        rw [ih.2 h1, h2]
        exact atKey_put_same hm (by trivial) _ _
    · rw [ih.2 (fun e => h (List.mem_cons_of_mem _ e))]
      exact atKey_put_other (str_lit fun e => h (by rw [e]; exact List.mem_cons_self)) _ _
theorem hasStr_mem {ss : List ByteArray} {s : ByteArray} : hasStr ss s = true ↔ s ∈ ss := by
  unfold hasStr
  rw [decide_eq_true_eq]
  exact idxFrom_ge s 0 ss
open Go.Maps in
theorem seen_at (seen : List ByteArray) (s : ByteArray) : (seenD seen).atKey (.string s.data.toList) (.lit (.bool false)) = .lit (.bool (hasStr seen s)) := by
  have h := seen_fold s (.lit (.bool false)) seen (.map []) isMap_empty
  by_cases hm : hasStr seen s = true
  · rw [hm]; exact h.1 (hasStr_mem.1 hm)
  · rw [(Bool.not_eq_true _).mp hm]
    rw [seenD, setOf, h.2 (fun e => hm (hasStr_mem.2 e))]
    simp [DataW.atKey]
open Go.Maps in
theorem seen_put (seen : List ByteArray) (s : ByteArray) : (seenD seen).put (.string s.data.toList) (.lit (.bool true)) = seenD (seen ++ [s]) := by
  simp [seenD, setOf, List.foldl_append]
theorem plain_bool_inv {P : Program} {e : TypeId} (he : P.underlying e = some .bool) {v : Value} {b : Bool} {ps : List MemPlace} (h : plainElem (H := Unit) P e v = some (.lit (.bool b), ps)) : v = .bool b := by
  unfold plainElem at h
  rw [he] at h
  cases v <;> simp at h
  rw [h.1]
end Go.Proofs.YtikhofcjkcbpbaaGreatDoor
