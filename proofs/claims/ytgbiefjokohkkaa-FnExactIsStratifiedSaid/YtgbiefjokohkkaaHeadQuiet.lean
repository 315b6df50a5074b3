/- A drawn statement whose first operations are forced, and whose others only read or call quietly. Over whatever program. No condition. -/
import Derived.Test.YtgbiefjokohkkaaFrame
import Derived.Deep.QuietTactic
import Derived.Lib.QuietBelow
import Derived.Tactics
namespace Go.Proofs.Ytgbiefjokohkkaa
open Go.RowKit Go.Sort

section
variable {P : Program} {ops : Array Oper} {md : Region.Mode} {Q : Exit → Act → World → Prop}

/-- Q, but K where the first operations have come to their end. -/
def thenK (Q : Exit → Act → World → Prop) (K : Act → World → Prop) : Exit → Act → World → Prop
  | .normal, a, w => K a w
  | e, a, w => Q e a w
theorem letsOut_thenK {K : Act → World → Prop} (h : LetsOut (thenK Q K)) : LetsOut Q := by
  obtain ⟨a, w, h⟩ := h
  exact ⟨a, w, h⟩
theorem wp_thenK {o : Oper} {a : Act} {w : World} {K K' X : Act → World → Prop} (hK : ∀ a w, K a w → K' a w) (h : o.wp P a w K (thenK Q X)) : o.wp P a w K' Q := by
  unfold Oper.wp at h ⊢
  generalize (execOp a.eval o).run P w = r at h ⊢
  unfold Oper.upon at h ⊢
  split at h
  · exact hK _ _ h
  · exact hK _ _ h
  · exact hK _ _ h
  · refine Calls.mono h fun e w' he => ?_
    cases e with
    | returned v => exact hK _ _ he
    | panicked c => exact he
    | outgrown => exact letsOut_thenK he
  · exact Rows.mono h fun v w' he => hK _ _ he
  · exact h
  · exact h.elim
/-- The first n operations are forced, one behind the other; the others may be walked in the order of the text. -/
def headLex (md : Region.Mode) (ops : Array Oper) : Nat → Nat → Array Bool → Nat → Bool
  | 0, k, listed, m => Region.lexFrom md ops m k listed
  | n + 1, k, listed, m => decide (Region.ready md ops listed = [k]) && headLex md ops n (k + 1) (listed.setIfInBounds k true) m
def QuietRest (P : Program) (ops : Array Oper) (Q : Exit → Act → World → Prop) (t : List Oper) (a : Act) (w : World) : Prop :=
  wpQuiet P ops (fun w' => ∃ p : Regrown, w' = grow (redrawn w p.d) p.os) (fun a' => ∀ w', (∃ p : Regrown, w' = grow (redrawn w p.d) p.os) → Q .normal a' w') t a
theorem wpAny_head (hs : Region.noSelect ops = true) (t : List Oper) : ∀ (h : List Oper) (k : Nat) (listed : Array Bool) (a : Act) (w : World), (∀ j, j < h.length → h[j]? = ops[k + j]?) → (∀ j, t[j]? = ops[k + h.length + j]?) →
    headLex md ops h.length k listed t.length = true → wpList P ops (thenK Q (QuietRest P ops Q t)) h a w → wpAny P md ops Q (h.length + t.length) listed a w
  | [], k, listed, a, w, _, ht, hB, h => by
    have h' : QuietRest P ops Q t a w := h
    rw [List.length_nil, Nat.zero_add]
    exact wpAny_of_quiet (C := fun w' => ∃ p : Regrown, w' = grow (redrawn w p.d) p.os) (Q := fun a' => ∀ w', (∃ p : Regrown, w' = grow (redrawn w p.d) p.os) → Q .normal a' w') (fun _ w' hw' h => h w' hw') _ _ _ _ ⟨⟨w.drawn, #[]⟩, by rw [grow_empty]; rfl⟩
      (wpAnyQ_lex hs t k listed a (by simpa using ht) (by simpa [headLex] using hB) h')
  | o :: h, k, listed, a, w, hl, ht, hB, hw => by
    have h0 : ops[k]? = some o := by simpa using (hl 0 (by simp)).symm
    simp only [List.length_cons, headLex, Bool.and_eq_true, decide_eq_true_eq] at hB
    rw [List.length_cons, show h.length + 1 + t.length = (h.length + t.length) + 1 by omega]
    refine ⟨fun h1 => (by rw [hB.1] at h1; cases h1), fun i hi => ?_⟩
    rw [hB.1] at hi
    have hik : i = k := by simpa using hi
    subst hik
    have next : ∀ a' w', wpList P ops (thenK Q (QuietRest P ops Q t)) h a' w' → wpAny P md ops Q (h.length + t.length) (listed.setIfInBounds i true) a' w' := fun a' w' h' =>
      wpAny_head hs t h (i + 1) _ a' w' (fun j hj => by have := hl (j + 1) (by simp; omega); simpa [Nat.add_assoc, Nat.add_comm 1 j] using this) (fun j => by have := ht j; simpa [Nat.add_assoc, Nat.add_comm 1] using this) hB.2 h'
    unfold wpOp
    simp only [h0]
    rw [wpList] at hw
    split
    · rename_i hwt
      rw [if_pos hwt] at hw
      rcases hw with hw | ⟨h1, h2⟩
      · exact .inl (wp_thenK next hw)
      · exact .inr ⟨h1, letsOut_thenK h2⟩
    · rename_i hwt
      rw [if_neg hwt] at hw
      exact next _ _ hw
theorem wp_region_head {id : Nat} {a : Act} {w : World} {l : List Oper} (n : Nat) (hm : P.follows .mixedOrders = true) (hB : (decide (n ≤ l.length) && (Region.noSelect l.toArray && headLex .any l.toArray n 0 (Array.replicate l.length false) (l.length - n))) = true)
    (h : wpList P l.toArray (thenK Q (QuietRest P l.toArray Q (l.drop n))) (l.take n) a w.drew) : (Code.region id l.toArray true).wp P Q a w := by
  simp only [Bool.and_eq_true, decide_eq_true_eq] at hB
  obtain ⟨hn, hs, hB⟩ := hB
  have h1 : (l.take n).length = n := by simp; omega
  have h2 : (l.drop n).length = l.length - n := by simp
  refine wp_region_any hm ?_
  have := wpAny_head (P := P) (md := .any) (Q := Q) (ops := l.toArray) hs (l.drop n) (l.take n) 0 (Array.replicate l.length false) a w.drew
    (fun j hj => by rw [h1] at hj; simp [hj]) (fun j => by rw [h1]; simp) (by rw [h1, h2]; exact hB) h
  rw [h1, h2, show n + (l.length - n) = l.length by omega] at this
  simpa using this
end
end Go.Proofs.Ytgbiefjokohkkaa
