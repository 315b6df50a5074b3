/- Walks: marks in definitions. -/
import Derived.Test.YtgpefnlpbjnjbaaGreatKeep
import Derived.Test.YtgpefnlpbjnjbaaGreatMReachableDefsc
import Derived.Test.YtgpefnlpbjnjbaaGreatDatKnown
import Derived.BigQuiet
import Derived.Test.YtgpefnlpbjnjbaaGreatTmValid
import Derived.Test.YtgpefnlpbjnjbaaGreatPgNamed
import Derived.Test.YtgpefnlpbjnjbaaGreatSzDf
import Derived.Test.YtgpefnlpbjnjbaaGreatDatOk
import Derived.Test.YtgpefnlpbjnjbaaGreatToSc
import Derived.Laws.OwnMore
import Derived.Lib.AppendZeros
import Derived.Deep.RegionHeld3
import Derived.BigRegion
import Derived.Lib.QuietBelow
import Derived.Test.YtgpefnlpbjnjbaaGreatSc
import Derived.Laws.IdiomStrings
import Derived.Test.YtgpefnlpbjnjbaaGreatSzTy
import Derived.Test.YtgpefnlpbjnjbaaGreatSzTm
import Derived.Test.YtgpefnlpbjnjbaaGreatDDf
namespace Go.Proofs.YtgpefnlpbjnjbaaGreat
open Go.RowKit

/-- The first n rise. -/
def RiseTo (n : Nat) (l : List Int) : Prop := ∀ (p q : Nat) (a b : Int), p < q → q < n → l[p]? = some a → l[q]? = some b → a ≤ b
/-- One element, at j, is not yet at its place among those up to i. -/
def InsAt (i j : Nat) (l : List Int) : Prop := (∀ (p q : Nat) (a b : Int), p < q → q ≤ i → p ≠ j → q ≠ j → l[p]? = some a → l[q]? = some b → a ≤ b) ∧ (∀ (q : Nat) (a b : Int), j < q → q ≤ i → l[j]? = some a → l[q]? = some b → a ≤ b)
theorem InsAt.start {i : Nat} {l : List Int} (h : RiseTo i l) : InsAt i i l :=
  ⟨fun p q a b h1 h2 _ h4 ha hb => h p q a b h1 (by omega) ha hb, fun q a b h1 h2 => absurd h1 (by omega)⟩
def swapL (l : List Int) (m : Nat) (x y : Int) : List Int := (l.set (m + 1) y).set m x
theorem swapL_length (l : List Int) (m : Nat) (x y : Int) : (swapL l m x y).length = l.length := by simp [swapL]
theorem swapL_perm {l : List Int} {m : Nat} {x y : Int} (hx : l[m + 1]? = some x) (hy : l[m]? = some y) : (swapL l m x y).Perm l := by
  obtain ⟨h1, rfl⟩ := List.getElem?_eq_some_iff.1 hx
  obtain ⟨h2, rfl⟩ := List.getElem?_eq_some_iff.1 hy
  exact List.set_set_perm h1 h2
theorem swapL_get {l : List Int} {m : Nat} {x y : Int} (hx : l[m + 1]? = some x) (hy : l[m]? = some y) (p : Nat) : (swapL l m x y)[p]? = if p = m then some x else if p = m + 1 then some y else l[p]? := by
  have h1 := (List.getElem?_eq_some_iff.1 hx).1
  have h2 := (List.getElem?_eq_some_iff.1 hy).1
  unfold swapL
  rw [List.getElem?_set, List.getElem?_set]
  by_cases hp : p = m
  · subst hp; simp [h2]
  · by_cases hq : p = m + 1
    · subst hq; simp [h1]
    · rw [if_neg (fun e => hp e.symm), if_neg (fun e => hq e.symm), if_neg hp, if_neg hq]
theorem InsAt.swap {i m : Nat} {l : List Int} {x y : Int} (h : InsAt i (m + 1) l) (hi : m + 1 ≤ i) (hx : l[m + 1]? = some x) (hy : l[m]? = some y) (hlt : x < y) : InsAt i m (swapL l m x y) := by
  obtain ⟨h1, h2⟩ := h
  refine ⟨fun p q a b hpq hq hp hqm ha hb => ?_, fun q a b hmq hq ha hb => ?_⟩
  · rw [swapL_get hx hy, if_neg hp] at ha
    rw [swapL_get hx hy, if_neg hqm] at hb
    by_cases e1 : p = m + 1
    · rw [if_pos e1] at ha
      rw [if_neg (by omega)] at hb
      obtain rfl := Option.some.inj ha
      exact h1 m q _ b (by omega) hq (by omega) (by omega) hy hb
    · rw [if_neg e1] at ha
      by_cases e2 : q = m + 1
      · rw [if_pos e2] at hb
        obtain rfl := Option.some.inj hb
        exact h1 p m a _ (by omega) (by omega) (by omega) (by omega) ha hy
      · rw [if_neg e2] at hb
        exact h1 p q a b hpq hq e1 e2 ha hb
  · rw [swapL_get hx hy, if_pos rfl] at ha
    rw [swapL_get hx hy, if_neg (by omega)] at hb
    obtain rfl := Option.some.inj ha
    by_cases e2 : q = m + 1
    · rw [if_pos e2] at hb
      obtain rfl := Option.some.inj hb
      omega
    · rw [if_neg e2] at hb
      exact h2 q _ b (by omega) hq hx hb
theorem InsAt.stop0 {i : Nat} {l : List Int} (h : InsAt i 0 l) : RiseTo (i + 1) l := fun p q a b h1 h2 ha hb => by
  by_cases e : p = 0
  · subst e; exact h.2 q a b h1 (by omega) ha hb
  · exact h.1 p q a b h1 (by omega) e (by omega) ha hb
theorem InsAt.stop {i m : Nat} {l : List Int} {x y : Int} (h : InsAt i (m + 1) l) (hi : m + 1 ≤ i) (hx : l[m + 1]? = some x) (hy : l[m]? = some y) (hge : ¬ x < y) : RiseTo (i + 1) l := fun p q a b h1 h2 ha hb => by
  by_cases e : p = m + 1
  · subst e; exact h.2 q a b h1 (by omega) ha hb
  · by_cases e2 : q = m + 1
    · subst e2
      obtain rfl := Option.some.inj (hb.symm.trans hx)
      by_cases e3 : p = m
      · subst e3
        obtain rfl := Option.some.inj (ha.symm.trans hy)
        omega
      · have := h.1 p m a y (by omega) (by omega) e (by omega) ha hy
        omega
    · exact h.1 p q a b h1 (by omega) e e2 ha hb
/-- The call's own list of numbers: its block, with what lies behind it. -/
def IntsAt (te : TypeId) (g : Nat) (l : List Int) (tl : List Value) (w : World) : Prop := w.heap[g]? = some (.cells (l.map (Value.int .i64) ++ tl).toArray te (0, 0))
theorem IntsAt.cell {te : TypeId} {g i : Nat} {l : List Int} {tl : List Value} {w : World} {x : Int} (h : IntsAt te g l tl w) (hi : l[i]? = some x) : w.cell? ⟨g, i, none⟩ = some (.int .i64 x) := by
  unfold IntsAt at h
  obtain ⟨hlt, rfl⟩ := List.getElem?_eq_some_iff.1 hi
  simp only [World.cell?, h]
  simp [List.getElem?_append_left, hlt]
theorem IntsAt.free {te : TypeId} {g : Nat} {l : List Int} {tl : List Value} {w : World} (h : IntsAt te g l tl w) (i : Nat) : w.frozen? ⟨g, i, none⟩ = false := by unfold IntsAt at h; simp [World.frozen?, h]
theorem IntsAt.set {te : TypeId} {g i : Nat} {l : List Int} {tl : List Value} {w : World} (h : IntsAt te g l tl w) (hi : i < l.length) (x : Int) : IntsAt te g (l.set i x) tl (w.setCell ⟨g, i, none⟩ (.int .i64 x)) := by
  have := heap_setCell_at w g i (.int .i64 x) h
  unfold IntsAt
  rw [this]
  congr 2
  rw [List.setIfInBounds_toArray, List.set_append_left _ _ (by simpa using hi), List.map_set]
theorem IntsAt.of_own {te : TypeId} {w : World} {B g n c : Nat} {l : List Int} (h : w.ownsRow B te 1 (.slice (some ⟨g, 0, none⟩) n c) n (l.map (Value.int .i64))) : ∃ tl, IntsAt te g l tl w ∧ l.length + tl.length = c ∧ l.length = n ∧ n ≤ c ∧ c ≤ maxLen ∧ B ≤ g := by
  obtain ⟨h1, h2⟩ := h
  rcases h2 with ⟨h2, -⟩ | ⟨g', cap, cur, he, hB, hg, hnc, hcm, hcs, ht⟩
  · simp at h2
  · simp only [Value.slice.injEq, Option.some.injEq, Addr.mk.injEq, and_true, true_and] at he
    obtain ⟨rfl, rfl⟩ := he
    simp only [List.length_map, Nat.mul_one] at h1 ht hcs
    refine ⟨cur.toList.drop n, ?_, by simp [h1, hcs]; omega, h1, hnc, hcm, hB⟩
    unfold IntsAt
    rw [hg, ← ht, List.take_append_drop]
theorem IntsAt.own {te : TypeId} {w : World} {B g c : Nat} {l : List Int} {tl : List Value} (h : IntsAt te g l tl w) (hl : l.length + tl.length = c) (hc : c ≤ maxLen) (hB : B ≤ g) : w.ownsRow B te 1 (.slice (some ⟨g, 0, none⟩) l.length c) l.length (l.map (Value.int .i64)) := by
  refine ⟨by simp, .inr ⟨g, c, _, rfl, hB, h, by omega, hc, by simp; omega, ?_⟩⟩
  simp
/-- Two rising lists of the same elements are one list. -/
theorem rise_perm : ∀ (a b : List Int), a.Perm b → a.Pairwise (· ≤ ·) → b.Pairwise (· ≤ ·) → a = b
  | [], b, h, _, _ => (List.nil_perm.1 h).symm
  | x :: a, [], h, _, _ => absurd (List.perm_nil.1 h) (by simp)
  | x :: a, y :: b, h, ha, hb => by
    have ha' := List.pairwise_cons.1 ha
    have hb' := List.pairwise_cons.1 hb
    have hxy : x = y := by
      have h1 : x ∈ y :: b := h.subset (by simp)
      have h2 : y ∈ x :: a := h.symm.subset (by simp)
      rcases List.mem_cons.1 h1 with e | e
      · exact e
      · rcases List.mem_cons.1 h2 with e2 | e2
        · exact e2.symm
        · have := hb'.1 x e; have := ha'.1 y e2; omega
    subst hxy
    rw [rise_perm a b (List.perm_cons x |>.1 h) ha'.2 hb'.2]
theorem RiseTo.pairwise {l : List Int} (h : RiseTo l.length l) : l.Pairwise (· ≤ ·) := by
  rw [List.pairwise_iff_getElem]
  intro i j hi hj hij
  exact h i j _ _ hij hj (List.getElem?_eq_getElem hi) (List.getElem?_eq_getElem hj)
end Go.Proofs.YtgpefnlpbjnjbaaGreat

namespace Go.Proofs.YtgpefnlpbjnjbaaGreat
open Go.RowKit

/-- A number to its place among rising ones, once. -/
def putI (n : Int) : List Int → List Int
  | [] => [n]
  | x :: l => if n ≤ x then (if n < x then n :: x :: l else x :: l) else x :: putI n l
theorem putI_len (n : Int) : ∀ l : List Int, (putI n l).length ≤ l.length + 1
  | [] => by simp [putI]
  | x :: l => by
    have := putI_len n l
    rw [putI]
    split
    · split <;> simp
    · simp; omega
theorem putI_new (n : Int) : ∀ l : List Int, l.Pairwise (· ≤ ·) → n ∉ l → (putI n l).Perm (n :: l) ∧ (putI n l).Pairwise (· ≤ ·)
  | [], _, _ => ⟨List.Perm.refl _, by simp [putI]⟩
  | x :: l, hp, hn => by
    have hp' := List.pairwise_cons.1 hp
    have hne : n ≠ x := fun e => hn (by simp [e])
    obtain ⟨h1, h2⟩ := putI_new n l hp'.2 (fun h => hn (by simp [h]))
    rw [putI]
    split
    · rename_i hle
      rw [if_pos (by omega)]
      refine ⟨List.Perm.refl _, List.pairwise_cons.2 ⟨fun y hy => ?_, hp⟩⟩
      rcases List.mem_cons.1 hy with rfl | hy
      · exact hle
      · have := hp'.1 y hy; omega
    · refine ⟨(h1.cons x).trans (List.Perm.swap n x l), List.pairwise_cons.2 ⟨fun y hy => ?_, h2⟩⟩
      rcases List.mem_cons.1 (h1.mem_iff.1 hy) with rfl | hy
      · omega
      · exact hp'.1 y hy
theorem putI_mem (n : Int) : ∀ (l : List Int) (x : Int), x ∈ putI n l → x = n ∨ x ∈ l
  | [], x, h => by simp [putI] at h; exact .inl h
  | y :: l, x, h => by
    rw [putI] at h
    split at h
    · split at h
      · simp at h; rcases h with h | h | h
        · exact .inl h
        · exact .inr (by simp [h])
        · exact .inr (by simp [h])
      · exact .inr h
    · rcases List.mem_cons.1 h with h | h
      · exact .inr (by simp [h])
      · rcases putI_mem n l x h with h | h
        · exact .inl h
        · exact .inr (by simp [h])
def putAll (l0 : List Int) (ns : List Int) : List Int := ns.foldl (fun o n => putI n o) l0
theorem putAll_snoc (l0 ns : List Int) (n : Int) : putAll l0 (ns ++ [n]) = putI n (putAll l0 ns) := by simp [putAll]
theorem putAll_new : ∀ (ns l0 : List Int), l0.Pairwise (· ≤ ·) → (ns ++ l0).Nodup → (putAll l0 ns).Perm (ns ++ l0) ∧ (putAll l0 ns).Pairwise (· ≤ ·)
  | [], l0, h, _ => ⟨List.Perm.refl _, h⟩
  | n :: ns, l0, h, hd => by
    have hd' := List.nodup_cons.1 hd
    have hn : n ∉ l0 := fun e => hd'.1 (by simp [e])
    obtain ⟨h1, h2⟩ := putI_new n l0 h hn
    have hp : (ns ++ putI n l0).Perm (n :: (ns ++ l0)) := (List.Perm.append_left ns h1).trans List.perm_middle
    obtain ⟨k1, k2⟩ := putAll_new ns (putI n l0) h2 (hp.nodup_iff.2 hd)
    exact ⟨k1.trans hp, k2⟩
theorem putAll_mem : ∀ (ns l0 : List Int) (x : Int), x ∈ putAll l0 ns → x ∈ ns ∨ x ∈ l0
  | [], l0, x, h => .inr h
  | n :: ns, l0, x, h => by
    rcases putAll_mem ns (putI n l0) x h with h | h
    · exact .inl (by simp [h])
    · rcases putI_mem n l0 x h with h | h
      · exact .inl (by simp [h])
      · exact .inr h
theorem putAll_len : ∀ (ns l0 : List Int), (putAll l0 ns).length ≤ l0.length + ns.length
  | [], l0 => by simp [putAll]
  | n :: ns, l0 => by
    have h1 := putAll_len ns (putI n l0)
    have h2 := putI_len n l0
    show (putAll (putI n l0) ns).length ≤ _
    simp only [List.length_cons]; omega
/-- A sorted list of the same numbers is the one that putting makes. -/
theorem sorted_putAll {ns ys : List Int} (hd : ns.Nodup) (hp : ys.Perm ns) (hs : ys.Pairwise (· ≤ ·)) : ys = putAll [] ns := by
  obtain ⟨h1, h2⟩ := putAll_new ns [] List.Pairwise.nil (by simpa using hd)
  exact rise_perm ys _ (hp.trans (by simpa using h1.symm)) hs h2
theorem fstAt_get {α : Type} (p : α → Bool) : ∀ (l : List α), 0 ≤ fstAt p l → ∃ t, l[(fstAt p l).toNat]? = some t ∧ p t = true
  | [], h => by simp [fstAt] at h
  | t :: l, h => by
    rw [fstAt] at h ⊢
    by_cases ht : p t = true
    · rw [if_pos ht]; exact ⟨t, rfl, ht⟩
    · rw [if_neg ht] at h ⊢
      by_cases h0 : fstAt p l < 0
      · rw [if_pos h0] at h; omega
      · rw [if_neg h0]
        obtain ⟨u, h1, h2⟩ := fstAt_get p l (by omega)
        exact ⟨u, by rw [show (fstAt p l + 1).toNat = (fstAt p l).toNat + 1 by omega, List.getElem?_cons_succ]; exact h1, h2⟩
theorem namedF_inj {fs : List Df} {a b : ByteArray} (ha : 0 ≤ namedF fs a) (h : namedF fs a = namedF fs b) : a = b := by
  obtain ⟨t, h1, h2⟩ := fstAt_get (dfIs a) fs ha
  obtain ⟨u, h3, h4⟩ := fstAt_get (dfIs b) fs (by have : namedF fs b = fstAt (dfIs b) fs := rfl; rw [← this, ← h]; exact ha)
  have e : fstAt (dfIs a) fs = fstAt (dfIs b) fs := h
  rw [← e, h1] at h3
  obtain rfl := Option.some.inj h3
  obtain ⟨n, ty, bd⟩ := t
  simp only [dfIs, decide_eq_true_eq] at h2 h4
  exact h2.symm.trans h4
mutual
theorem Tm.free_nodup : ∀ (t : Tm) (sc out : List ByteArray), out.Nodup → (Tm.free t sc out).Nodup
  | .mk k u n t ns ks, sc, out, h => by
    rw [Tm.free]
    split
    · split
      · exact h
      · split
        · exact h
        · rename_i hne
          refine List.nodup_append.2 ⟨h, by simp, fun a ha b hb e => ?_⟩
          simp only [List.mem_cons, List.not_mem_nil, or_false] at hb
          subst hb; subst e
          obtain ⟨q, hq⟩ := List.mem_iff_getElem?.1 ha
          exact hne (hasStr_yes hq)
    · exact Tm.frees_nodup k n ns 0 ks sc out h
theorem Tm.frees_nodup (k : Int) (n : ByteArray) (ns : List ByteArray) : ∀ (i : Nat) (ts : List Tm) (sc out : List ByteArray), out.Nodup → (Tm.frees k n ns i ts sc out).Nodup
  | i, [], sc, out, h => by rw [Tm.frees]; exact h
  | i, t :: ts, sc, out, h => by rw [Tm.frees]; exact Tm.frees_nodup k n ns (i + 1) ts sc _ (Tm.free_nodup t _ out h)
end
def usedOf (fs : List Df) (b : Tm) : List Int := putAll [] ((Tm.free b [] []).map (namedF fs))
def dfBody : Df → Tm | .mk _ _ b => b
def usedAt (fs : List Df) (k : Int) : List Int := match fs[k.toNat]? with | some d => usedOf fs (dfBody d) | none => []
def usedN : Pg → Int → List Int
  | .mk ds fs, k => if checkN (.mk ds fs) = 0 ∧ 0 ≤ k ∧ k < fs.length then usedAt fs k else []
/-- In a checked program every free name is known. -/
theorem check_ok {ds : List Dat} {fs : List Df} (h : checkN (.mk ds fs) = 0) : progOk ds fs = true ∧ fs.any (unknownD ds fs) = false := by
  rw [checkN] at h
  split at h
  · rename_i h1
    split at h
    · simp at h
    · rename_i h2; exact ⟨h1, (Bool.not_eq_true _).mp h2⟩
  · simp at h
theorem free_known {ds : List Dat} {fs : List Df} (h : checkN (.mk ds fs) = 0) {j : Nat} {n : ByteArray} {t : Ty} {b : Tm} (hj : fs[j]? = some (.mk n t b)) : ∀ x ∈ Tm.free b [] [], 0 ≤ namedF fs x := by
  have h2 := any_g (check_ok h).2 hj
  rw [unknownD_mk, Bool.or_eq_false_iff, Bool.or_eq_false_iff] at h2
  intro x hx
  have h3 := h2.2.1
  rw [List.any_eq_false] at h3
  have := h3 x hx
  simp only [noDef, decide_eq_true_eq] at this
  omega
theorem used_nodup {ds : List Dat} {fs : List Df} (h : checkN (.mk ds fs) = 0) {j : Nat} {n : ByteArray} {t : Ty} {b : Tm} (hj : fs[j]? = some (.mk n t b)) : ((Tm.free b [] []).map (namedF fs)).Nodup := by
  have hk := free_known h hj
  have hn := Tm.free_nodup b [] [] List.nodup_nil
  generalize Tm.free b [] [] = zs at hk hn
  induction zs with
  | nil => simp
  | cons x zs ih =>
    have hn' := List.nodup_cons.1 hn
    rw [List.map_cons, List.nodup_cons]
    refine ⟨fun hm => ?_, ih (fun y hy => hk y (by simp [hy])) hn'.2⟩
    obtain ⟨y, hy, e⟩ := List.mem_map.1 hm
    have := namedF_inj (hk y (by simp [hy])) e
    subst this
    exact hn'.1 hy
theorem namedF_bd (fs : List Df) (nm : ByteArray) : -1 ≤ namedF fs nm ∧ namedF fs nm < fs.length := ⟨fstAt_ge _ _, fstAt_lt _ _⟩
theorem usedOf_bd (fs : List Df) (b : Tm) : ∀ x ∈ usedOf fs b, -1 ≤ x ∧ x < fs.length := fun x hx => by
  rcases putAll_mem _ _ x hx with h | h
  · obtain ⟨nm, _, rfl⟩ := List.mem_map.1 h; exact namedF_bd fs nm
  · simp at h
/-- Different numbers below a bound are few. -/
theorem nodup_len : ∀ (n : Nat) (l : List Int), l.Nodup → (∀ x ∈ l, 0 ≤ x ∧ x < n) → l.length ≤ n
  | 0, [], _, _ => Nat.le_refl _
  | 0, x :: l, _, h => absurd (h x (by simp)) (by omega)
  | n + 1, l, hd, h => by
    have h1 := nodup_len n (l.erase (n : Int)) (hd.erase _) (fun x hx => by
      have hx' := (List.Nodup.mem_erase_iff hd).1 hx
      have := h x hx'.2
      omega)
    have h2 := List.length_erase (a := (n : Int)) (l := l)
    by_cases hm : (n : Int) ∈ l
    · rw [if_pos hm] at h2; omega
    · rw [if_neg hm] at h2; omega
theorem used_len {ds : List Dat} {fs : List Df} (h : checkN (.mk ds fs) = 0) {j : Nat} {n : ByteArray} {t : Ty} {b : Tm} (hj : fs[j]? = some (.mk n t b)) : (Tm.free b [] []).length ≤ fs.length := by
  have := nodup_len fs.length _ (used_nodup h hj) (fun x hx => by
    obtain ⟨nm, hm, rfl⟩ := List.mem_map.1 hx
    exact ⟨free_known h hj nm hm, (namedF_bd fs nm).2⟩)
  simpa using this
theorem usedN_len (ds : List Dat) (fs : List Df) (k : Int) : (usedN (.mk ds fs) k).length ≤ 1 + Pg.bulk (.mk ds fs) := by
  rw [usedN]
  split
  · unfold usedAt
    cases h : fs[k.toNat]? with
    | none => simp
    | some d =>
      obtain ⟨n, t, b⟩ := d
      have h1 := putAll_len ((Tm.free b [] []).map (namedF fs)) []
      have h2 := Tm.free_len b [] []
      have h3 := Df.bulk_get fs k.toNat _ h
      simp only [List.length_map, List.length_nil, Nat.zero_add, Df.bulk] at h1 h2 h3
      show (usedOf fs b).length ≤ _
      unfold usedOf
      simp only [Pg.bulk]
      omega
  · simp
end Go.Proofs.YtgpefnlpbjnjbaaGreat

namespace Go.Proofs.YtgpefnlpbjnjbaaGreat
open Go.ChangeShapes Go.WideShapes Go.ChangeAt Go.RowKit Go.BigFrame
open Go.Sort (grow)
set_option linter.unusedVariables false

def NfW (ds : List Dat) (ads : Option Addr) (cds : Nat) (N : Nat) : Prop := ∀ (k1 : Int) (u1 : Int) (n1 : ByteArray) (tk1 : Int) (tn1 : ByteArray) (tks1 : List Ty) (ns1 : List ByteArray) (ks1 : List Tm) (atks1 : Option Addr) (ctks1 : Nat) (ans1 : Option Addr) (cns1 : Nat) (aks1 : Option Addr) (cks1 : Nat) (b1 o1 : Nat) (w : World), Tm.bulk (Tm.mk k1 u1 n1 (Ty.mk tk1 tn1 tks1) ns1 ks1) < N → Tm.bulk (Tm.mk k1 u1 n1 (Ty.mk tk1 tn1 tks1) ns1 ks1) ≤ 1048576 → w.cell? ⟨b1, o1, none⟩ = some (.int .i64 k1) → w.cell? ⟨b1, o1 + 1, none⟩ = some (.int .i64 u1) → w.cell? ⟨b1, o1 + 2, none⟩ = some (.string n1) → w.cell? ⟨b1, o1 + 3, none⟩ = some (.int .i64 tk1) → w.cell? ⟨b1, o1 + 4, none⟩ = some (.string tn1) → w.cell? ⟨b1, o1 + 5, none⟩ = some (.slice atks1 tks1.length ctks1) → w.cell? ⟨b1, o1 + 6, none⟩ = some (.slice ans1 ns1.length cns1) → w.cell? ⟨b1, o1 + 7, none⟩ = some (.slice aks1 ks1.length cks1) → RdL w (Dat.ds ds) (.slice ads ds.length cds) → RdS w (Tm.d (Tm.mk k1 u1 n1 (Ty.mk tk1 tn1 tks1) ns1 ks1)) [.int .i64 k1, .int .i64 u1, .string n1, .int .i64 tk1, .string tn1, .slice atks1 tks1.length ctks1, .slice ans1 ns1.length cns1, .slice aks1 ks1.length cks1] →
  Calls Tryz.prog 48 #[.slice ads ds.length cds, .pointer (some ⟨b1, o1, none⟩)] w fun e w' => e = .returned (.bool (!Tm.anyN (badName ds) (Tm.mk k1 u1 n1 (Ty.mk tk1 tn1 tks1) ns1 ks1))) ∧ Below w.heap.size w w'
set_option maxRecDepth 100000 in
set_option maxHeartbeats 4000000 in
theorem namesFit_step (ds : List Dat) (ads : Option Addr) (cds : Nat) (hD : Dat.bulks ds ≤ 1048576) (N : Nat) (ih : NfW ds ads cds N) : NfW ds ads cds (N + 1) := by
  intro k1 u1 n1 tk1 tn1 tks1 ns1 ks1 atks1 ctks1 ans1 cns1 aks1 cks1 b1 o1 w hN hM x0 x1 x2 x3 x4 x5 x6 x7 hd hr
  have hkn := fun W (hW : Below w.heap.size w W) => spec_Known ds ads cds tk1 tn1 tks1 atks1 ctks1 W (hd.below hW) (hr.subTm_t.below hW)
  have hcn := fun W (hW : Below w.heap.size w W) => spec_Con ds ads cds n1 W hD (hd.below hW)
  have hbk : Tm.bulks ks1 ≤ Tm.bulk (Tm.mk k1 u1 n1 (Ty.mk tk1 tn1 tks1) ns1 ks1) := by simp only [Tm.bulk]; omega
  have hlk : ks1.length ≤ 1048576 := by have := Tm.bulks_length ks1; omega
  obtain ⟨_, _, e, h2, h3, h4⟩ := hr.fTm.2.2.2.2.2.eTm
  simp only [Value.slice.injEq, true_and] at e
  obtain ⟨rfl, rfl⟩ := e
  have HAN0 := hid (fun p => Tm.anyN_mk p k1 u1 n1 (Ty.mk tk1 tn1 tks1) ns1 ks1)
  have X7 := hid x7
  have XL := hid (World.block_lt_of_cell? _ _ x7)
  have H4 := hid h4
  have HK := hid hbk
  have HM := hid hM
  have HN := hid hN
  have HD := hid hd
  have IH := hid ih
  have HX0 := hid x0
  have HX2 := hid x2
  clear h2 h3 h4 hbk hM hN hd ih
  by_cases hk4 : k1 = 4
  case pos =>
    subst hk4
    have hf := badName_lam ds u1 n1 (Ty.mk tk1 tn1 tks1) ns1 ks1
    cases hq : Ty.known ds (Ty.mk tk1 tn1 tks1)
    case false =>
      rw [hq] at hkn hf
      have HKN := hid hkn
      have HE := hid (show (!Tm.anyN (badName ds) (Tm.mk 4 u1 n1 (Ty.mk tk1 tn1 tks1) ns1 ks1)) = false by rw [HAN0.out, hf]; rfl)
      clear hkn hf hq hcn hr IH H4 HK HM HN HD HX0 HX2 XL X7
      go_enter Tryz.func48, Tryz.ntmps48
      go_wp2_with fail
      refine (HKN.out _ (Below.refl _ _)).mono ?_
      rintro e w1 ⟨rfl, hb⟩
      go_wp2_with fail
      go_ret
      exact ⟨ret_bool HE.out.symm, hb⟩
    case true =>
      rw [hq] at hkn hf
      have HKN := hid hkn
      have HAN := hid (show Tm.anyN (badName ds) (Tm.mk 4 u1 n1 (Ty.mk tk1 tn1 tks1) ns1 ks1) = ks1.any (Tm.anyN (badName ds)) by rw [HAN0.out, hf]; rfl)
      clear hkn hf hq hcn hr
      go_enter Tryz.func48, Tryz.ntmps48
      go_wp2_with fail
      refine (HKN.out _ (Below.refl _ _)).mono ?_
      rintro e w1 ⟨rfl, hb⟩
      have y0 := (hb.cell (p := ⟨b1, o1, none⟩) XL.out).trans HX0.out
      have HBL := hid hb
      clear hb x0 x1 x2 x3 x4 x5 x6 x7
      go_wp2_with fail
      clear y0
      go_loopw [7] (fun i wr => ∃ (j : Nat), j ≤ ks1.length ∧ i = .int .i64 j ∧ Hid (∀ (i : Nat) t, i < j → ks1[i]? = some t → Tm.anyN (badName ds) t = false) ∧ Hid (Below w.heap.size w wr)) (fun i _ => ks1.length - (intOf i).toNat)
      case atStart => exact ⟨0, by omega, rfl, fun i t hi => absurd hi (by omega), HBL⟩
      case round =>
        obtain ⟨j, hj, rfl, HJ, HB⟩ := hrel
        have z7 := (HB.out.cell (p := ⟨b1, o1 + 7, none⟩) XL.out).trans X7.out
        by_cases hlt : j < ks1.length
        case neg =>
          have HE := hid (show (!Tm.anyN (badName ds) (Tm.mk 4 u1 n1 (Ty.mk tk1 tn1 tks1) ns1 ks1)) = true by rw [HAN.out, any_n (fun i t h => HJ.out i t (by have := (List.getElem?_eq_some_iff.1 h).1; omega) h)]; rfl)
          go_wp2_with fail
          go_ret
          exact ⟨ret_bool HE.out.symm, HB.out⟩
        case pos =>
          obtain ⟨b, o, rfl, hbl, hall⟩ := H4.out (by omega)
          obtain ⟨t, ht⟩ : ∃ t, ks1[j]? = some t := ⟨_, List.getElem?_eq_getElem hlt⟩
          obtain ⟨k3, u3, n3, ⟨tk3, tn3, tks3⟩, ns3, ks3⟩ := t
          obtain ⟨atks3, ctks3, ans3, cns3, aks3, cks3, q0, q1, q2, q3, q4, q5, q6, q7, hrk⟩ := hall j k3 u3 n3 tk3 tn3 tks3 ns3 ks3 ht
          have hbg := Tm.bulk_get ks1 j _ ht
          have hc := IH.out k3 u3 n3 tk3 tn3 tks3 ns3 ks3 atks3 ctks3 ans3 cns3 aks3 cks3 b (o + j * 8) wr (by have := HK.out; have := HN.out; omega) (by have := HK.out; have := HM.out; omega)  ((HB.out.cell (p := ⟨b, o + j * 8, none⟩) hbl).trans q0) ((HB.out.cell (p := ⟨b, o + j * 8 + 1, none⟩) hbl).trans q1) ((HB.out.cell (p := ⟨b, o + j * 8 + 2, none⟩) hbl).trans q2) ((HB.out.cell (p := ⟨b, o + j * 8 + 3, none⟩) hbl).trans q3) ((HB.out.cell (p := ⟨b, o + j * 8 + 4, none⟩) hbl).trans q4) ((HB.out.cell (p := ⟨b, o + j * 8 + 5, none⟩) hbl).trans q5) ((HB.out.cell (p := ⟨b, o + j * 8 + 6, none⟩) hbl).trans q6) ((HB.out.cell (p := ⟨b, o + j * 8 + 7, none⟩) hbl).trans q7) (HD.out.below HB.out) (hrk.below HB.out)
          have HT := hid ht
          clear hall H4 q0 q1 q2 q3 q4 q5 q6 q7 hrk ht hbg
          cases hq : Tm.anyN (badName ds) (Tm.mk k3 u3 n3 (Ty.mk tk3 tn3 tks3) ns3 ks3)
          case true =>
            rw [hq] at hc
            have HC := hid hc
            have HE := hid (show (!Tm.anyN (badName ds) (Tm.mk 4 u1 n1 (Ty.mk tk1 tn1 tks1) ns1 ks1)) = false by rw [HAN.out, any_y HT.out hq]; rfl)
            clear hc hq
            go_wp2_with fail
            refine HC.out.mono ?_
            rintro e w3 ⟨rfl, hb⟩
            have HB3 := hid (HB.out.trans (hb.mono HB.out.size))
            clear hb z7
            go_wp2_with fail
            go_ret
            exact ⟨ret_bool HE.out.symm, HB3.out⟩
          case false =>
            rw [hq] at hc
            have HC := hid hc
            have HQ := hid hq
            clear hc hq
            go_wp2_with fail
            refine HC.out.mono ?_
            rintro e w3 ⟨rfl, hb⟩
            have HB3 := hid (HB.out.trans (hb.mono HB.out.size))
            clear hb z7
            go_wp2_with fail
            go_roundw
            case rel =>
              refine ⟨j + 1, by omega, by go_num, hid fun i t hi h => ?_, HB3⟩
              rcases Nat.lt_succ_iff_lt_or_eq.1 hi with hi | rfl
              · exact HJ.out i t hi h
              · obtain rfl := Option.some.inj (h.symm.trans HT.out)
                exact HQ.out
            case measure => simp [intOf]; omega
  case neg =>
  have g4 : (k1 == 4) = false := by simp [hk4]
  by_cases hk8 : k1 = 8
  case pos =>
    have g8 : (k1 == 8) = true := by simp [hk8]
    have g10 : (k1 == 10) = false := by simp [hk8]
    have hf := badName_con ds (k := k1) (by omega) u1 n1 (Ty.mk tk1 tn1 tks1) ns1 ks1
    obtain ⟨r1, hr1⟩ : ∃ r, (conOf n1 ds 0).1 = r := ⟨_, rfl⟩
    obtain ⟨r2, hr2⟩ : ∃ r, (conOf n1 ds 0).2 = r := ⟨_, rfl⟩
    unfold conIdx at hf
    rw [hr1] at hf
    rw [hr1, hr2] at hcn
    have HCN := hid hcn
    by_cases hneg : r1 < 0
    case pos =>
      have gn : decide (r1 < 0) = true := decide_eq_true hneg
      have HE := hid (show (!Tm.anyN (badName ds) (Tm.mk k1 u1 n1 (Ty.mk tk1 tn1 tks1) ns1 ks1)) = false by rw [HAN0.out, hf, gn]; rfl)
      clear hkn hf hneg hcn hr IH H4 HK HM HN HD HX0 HX2 XL X7 hr1 hr2 hk4 hk8
      go_enter Tryz.func48, Tryz.ntmps48
      go_wp2_with fail
      refine (HCN.out _ (Below.refl _ _)).mono ?_
      rintro e w1 ⟨rfl, hb⟩
      go_wp2_with fail
      go_ret
      exact ⟨ret_bool HE.out.symm, hb⟩
    case neg =>
      have gn : decide (r1 < 0) = false := decide_eq_false hneg
      have HAN := hid (show Tm.anyN (badName ds) (Tm.mk k1 u1 n1 (Ty.mk tk1 tn1 tks1) ns1 ks1) = ks1.any (Tm.anyN (badName ds)) by rw [HAN0.out, hf, gn]; rfl)
      clear hkn hf hneg hcn hr hr1 hr2 hk4 hk8
      go_enter Tryz.func48, Tryz.ntmps48
      go_wp2_with fail
      refine (HCN.out _ (Below.refl _ _)).mono ?_
      rintro e w1 ⟨rfl, hb⟩
      have HBL := hid hb
      clear hb x0 x1 x2 x3 x4 x5 x6 x7
      go_wp2_with fail
      go_loopw [7] (fun i wr => ∃ (j : Nat), j ≤ ks1.length ∧ i = .int .i64 j ∧ Hid (∀ (i : Nat) t, i < j → ks1[i]? = some t → Tm.anyN (badName ds) t = false) ∧ Hid (Below w.heap.size w wr)) (fun i _ => ks1.length - (intOf i).toNat)
      case atStart => exact ⟨0, by omega, rfl, fun i t hi => absurd hi (by omega), HBL⟩
      case round =>
        obtain ⟨j, hj, rfl, HJ, HB⟩ := hrel
        have z7 := (HB.out.cell (p := ⟨b1, o1 + 7, none⟩) XL.out).trans X7.out
        by_cases hlt : j < ks1.length
        case neg =>
          have HE := hid (show (!Tm.anyN (badName ds) (Tm.mk k1 u1 n1 (Ty.mk tk1 tn1 tks1) ns1 ks1)) = true by rw [HAN.out, any_n (fun i t h => HJ.out i t (by have := (List.getElem?_eq_some_iff.1 h).1; omega) h)]; rfl)
          go_wp2_with fail
          go_ret
          exact ⟨ret_bool HE.out.symm, HB.out⟩
        case pos =>
          obtain ⟨b, o, rfl, hbl, hall⟩ := H4.out (by omega)
          obtain ⟨t, ht⟩ : ∃ t, ks1[j]? = some t := ⟨_, List.getElem?_eq_getElem hlt⟩
          obtain ⟨k3, u3, n3, ⟨tk3, tn3, tks3⟩, ns3, ks3⟩ := t
          obtain ⟨atks3, ctks3, ans3, cns3, aks3, cks3, q0, q1, q2, q3, q4, q5, q6, q7, hrk⟩ := hall j k3 u3 n3 tk3 tn3 tks3 ns3 ks3 ht
          have hbg := Tm.bulk_get ks1 j _ ht
          have hc := IH.out k3 u3 n3 tk3 tn3 tks3 ns3 ks3 atks3 ctks3 ans3 cns3 aks3 cks3 b (o + j * 8) wr (by have := HK.out; have := HN.out; omega) (by have := HK.out; have := HM.out; omega)  ((HB.out.cell (p := ⟨b, o + j * 8, none⟩) hbl).trans q0) ((HB.out.cell (p := ⟨b, o + j * 8 + 1, none⟩) hbl).trans q1) ((HB.out.cell (p := ⟨b, o + j * 8 + 2, none⟩) hbl).trans q2) ((HB.out.cell (p := ⟨b, o + j * 8 + 3, none⟩) hbl).trans q3) ((HB.out.cell (p := ⟨b, o + j * 8 + 4, none⟩) hbl).trans q4) ((HB.out.cell (p := ⟨b, o + j * 8 + 5, none⟩) hbl).trans q5) ((HB.out.cell (p := ⟨b, o + j * 8 + 6, none⟩) hbl).trans q6) ((HB.out.cell (p := ⟨b, o + j * 8 + 7, none⟩) hbl).trans q7) (HD.out.below HB.out) (hrk.below HB.out)
          have HT := hid ht
          clear hall H4 q0 q1 q2 q3 q4 q5 q6 q7 hrk ht hbg
          cases hq : Tm.anyN (badName ds) (Tm.mk k3 u3 n3 (Ty.mk tk3 tn3 tks3) ns3 ks3)
          case true =>
            rw [hq] at hc
            have HC := hid hc
            have HE := hid (show (!Tm.anyN (badName ds) (Tm.mk k1 u1 n1 (Ty.mk tk1 tn1 tks1) ns1 ks1)) = false by rw [HAN.out, any_y HT.out hq]; rfl)
            clear hc hq
            go_wp2_with fail
            refine HC.out.mono ?_
            rintro e w3 ⟨rfl, hb⟩
            have HB3 := hid (HB.out.trans (hb.mono HB.out.size))
            clear hb z7
            go_wp2_with fail
            go_ret
            exact ⟨ret_bool HE.out.symm, HB3.out⟩
          case false =>
            rw [hq] at hc
            have HC := hid hc
            have HQ := hid hq
            clear hc hq
            go_wp2_with fail
            refine HC.out.mono ?_
            rintro e w3 ⟨rfl, hb⟩
            have HB3 := hid (HB.out.trans (hb.mono HB.out.size))
            clear hb z7
            go_wp2_with fail
            go_roundw
            case rel =>
              refine ⟨j + 1, by omega, by go_num, hid fun i t hi h => ?_, HB3⟩
              rcases Nat.lt_succ_iff_lt_or_eq.1 hi with hi | rfl
              · exact HJ.out i t hi h
              · obtain rfl := Option.some.inj (h.symm.trans HT.out)
                exact HQ.out
            case measure => simp [intOf]; omega
  case neg =>
  by_cases hk10 : k1 = 10
  case pos =>
    have g8 : (k1 == 8) = false := by simp [hk10]
    have g10 : (k1 == 10) = true := by simp [hk10]
    have hf := badName_con ds (k := k1) (by omega) u1 n1 (Ty.mk tk1 tn1 tks1) ns1 ks1
    obtain ⟨r1, hr1⟩ : ∃ r, (conOf n1 ds 0).1 = r := ⟨_, rfl⟩
    obtain ⟨r2, hr2⟩ : ∃ r, (conOf n1 ds 0).2 = r := ⟨_, rfl⟩
    unfold conIdx at hf
    rw [hr1] at hf
    rw [hr1, hr2] at hcn
    have HCN := hid hcn
    by_cases hneg : r1 < 0
    case pos =>
      have gn : decide (r1 < 0) = true := decide_eq_true hneg
      have HE := hid (show (!Tm.anyN (badName ds) (Tm.mk k1 u1 n1 (Ty.mk tk1 tn1 tks1) ns1 ks1)) = false by rw [HAN0.out, hf, gn]; rfl)
      clear hkn hf hneg hcn hr IH H4 HK HM HN HD HX0 HX2 XL X7 hr1 hr2 hk4 hk8 hk10
      go_enter Tryz.func48, Tryz.ntmps48
      go_wp2_with fail
      refine (HCN.out _ (Below.refl _ _)).mono ?_
      rintro e w1 ⟨rfl, hb⟩
      go_wp2_with fail
      go_ret
      exact ⟨ret_bool HE.out.symm, hb⟩
    case neg =>
      have gn : decide (r1 < 0) = false := decide_eq_false hneg
      have HAN := hid (show Tm.anyN (badName ds) (Tm.mk k1 u1 n1 (Ty.mk tk1 tn1 tks1) ns1 ks1) = ks1.any (Tm.anyN (badName ds)) by rw [HAN0.out, hf, gn]; rfl)
      clear hkn hf hneg hcn hr hr1 hr2 hk4 hk8 hk10
      go_enter Tryz.func48, Tryz.ntmps48
      go_wp2_with fail
      refine (HCN.out _ (Below.refl _ _)).mono ?_
      rintro e w1 ⟨rfl, hb⟩
      have HBL := hid hb
      clear hb x0 x1 x2 x3 x4 x5 x6 x7
      go_wp2_with fail
      go_loopw [7] (fun i wr => ∃ (j : Nat), j ≤ ks1.length ∧ i = .int .i64 j ∧ Hid (∀ (i : Nat) t, i < j → ks1[i]? = some t → Tm.anyN (badName ds) t = false) ∧ Hid (Below w.heap.size w wr)) (fun i _ => ks1.length - (intOf i).toNat)
      case atStart => exact ⟨0, by omega, rfl, fun i t hi => absurd hi (by omega), HBL⟩
      case round =>
        obtain ⟨j, hj, rfl, HJ, HB⟩ := hrel
        have z7 := (HB.out.cell (p := ⟨b1, o1 + 7, none⟩) XL.out).trans X7.out
        by_cases hlt : j < ks1.length
        case neg =>
          have HE := hid (show (!Tm.anyN (badName ds) (Tm.mk k1 u1 n1 (Ty.mk tk1 tn1 tks1) ns1 ks1)) = true by rw [HAN.out, any_n (fun i t h => HJ.out i t (by have := (List.getElem?_eq_some_iff.1 h).1; omega) h)]; rfl)
          go_wp2_with fail
          go_ret
          exact ⟨ret_bool HE.out.symm, HB.out⟩
        case pos =>
          obtain ⟨b, o, rfl, hbl, hall⟩ := H4.out (by omega)
          obtain ⟨t, ht⟩ : ∃ t, ks1[j]? = some t := ⟨_, List.getElem?_eq_getElem hlt⟩
          obtain ⟨k3, u3, n3, ⟨tk3, tn3, tks3⟩, ns3, ks3⟩ := t
          obtain ⟨atks3, ctks3, ans3, cns3, aks3, cks3, q0, q1, q2, q3, q4, q5, q6, q7, hrk⟩ := hall j k3 u3 n3 tk3 tn3 tks3 ns3 ks3 ht
          have hbg := Tm.bulk_get ks1 j _ ht
          have hc := IH.out k3 u3 n3 tk3 tn3 tks3 ns3 ks3 atks3 ctks3 ans3 cns3 aks3 cks3 b (o + j * 8) wr (by have := HK.out; have := HN.out; omega) (by have := HK.out; have := HM.out; omega)  ((HB.out.cell (p := ⟨b, o + j * 8, none⟩) hbl).trans q0) ((HB.out.cell (p := ⟨b, o + j * 8 + 1, none⟩) hbl).trans q1) ((HB.out.cell (p := ⟨b, o + j * 8 + 2, none⟩) hbl).trans q2) ((HB.out.cell (p := ⟨b, o + j * 8 + 3, none⟩) hbl).trans q3) ((HB.out.cell (p := ⟨b, o + j * 8 + 4, none⟩) hbl).trans q4) ((HB.out.cell (p := ⟨b, o + j * 8 + 5, none⟩) hbl).trans q5) ((HB.out.cell (p := ⟨b, o + j * 8 + 6, none⟩) hbl).trans q6) ((HB.out.cell (p := ⟨b, o + j * 8 + 7, none⟩) hbl).trans q7) (HD.out.below HB.out) (hrk.below HB.out)
          have HT := hid ht
          clear hall H4 q0 q1 q2 q3 q4 q5 q6 q7 hrk ht hbg
          cases hq : Tm.anyN (badName ds) (Tm.mk k3 u3 n3 (Ty.mk tk3 tn3 tks3) ns3 ks3)
          case true =>
            rw [hq] at hc
            have HC := hid hc
            have HE := hid (show (!Tm.anyN (badName ds) (Tm.mk k1 u1 n1 (Ty.mk tk1 tn1 tks1) ns1 ks1)) = false by rw [HAN.out, any_y HT.out hq]; rfl)
            clear hc hq
            go_wp2_with fail
            refine HC.out.mono ?_
            rintro e w3 ⟨rfl, hb⟩
            have HB3 := hid (HB.out.trans (hb.mono HB.out.size))
            clear hb z7
            go_wp2_with fail
            go_ret
            exact ⟨ret_bool HE.out.symm, HB3.out⟩
          case false =>
            rw [hq] at hc
            have HC := hid hc
            have HQ := hid hq
            clear hc hq
            go_wp2_with fail
            refine HC.out.mono ?_
            rintro e w3 ⟨rfl, hb⟩
            have HB3 := hid (HB.out.trans (hb.mono HB.out.size))
            clear hb z7
            go_wp2_with fail
            go_roundw
            case rel =>
              refine ⟨j + 1, by omega, by go_num, hid fun i t hi h => ?_, HB3⟩
              rcases Nat.lt_succ_iff_lt_or_eq.1 hi with hi | rfl
              · exact HJ.out i t hi h
              · obtain rfl := Option.some.inj (h.symm.trans HT.out)
                exact HQ.out
            case measure => simp [intOf]; omega
  case neg =>
  have g8 : (k1 == 8) = false := by simp [hk8]
  have g10 : (k1 == 10) = false := by simp [hk10]
  have HAN := hid (show Tm.anyN (badName ds) (Tm.mk k1 u1 n1 (Ty.mk tk1 tn1 tks1) ns1 ks1) = ks1.any (Tm.anyN (badName ds)) by rw [HAN0.out, badName_else ds hk4 hk8 hk10]; rfl)
  have HBL := hid (Below.refl w.heap.size w)
  clear hkn hcn hr hk4 hk8 hk10
  go_enter Tryz.func48, Tryz.ntmps48
  go_wp2_with fail
  clear x0 x1 x2 x3 x4 x5 x6 x7
  go_loopw [7] (fun i wr => ∃ (j : Nat), j ≤ ks1.length ∧ i = .int .i64 j ∧ Hid (∀ (i : Nat) t, i < j → ks1[i]? = some t → Tm.anyN (badName ds) t = false) ∧ Hid (Below w.heap.size w wr)) (fun i _ => ks1.length - (intOf i).toNat)
  case atStart => exact ⟨0, by omega, rfl, fun i t hi => absurd hi (by omega), HBL⟩
  case round =>
    obtain ⟨j, hj, rfl, HJ, HB⟩ := hrel
    have z7 := (HB.out.cell (p := ⟨b1, o1 + 7, none⟩) XL.out).trans X7.out
    by_cases hlt : j < ks1.length
    case neg =>
      have HE := hid (show (!Tm.anyN (badName ds) (Tm.mk k1 u1 n1 (Ty.mk tk1 tn1 tks1) ns1 ks1)) = true by rw [HAN.out, any_n (fun i t h => HJ.out i t (by have := (List.getElem?_eq_some_iff.1 h).1; omega) h)]; rfl)
      go_wp2_with fail
      go_ret
      exact ⟨ret_bool HE.out.symm, HB.out⟩
    case pos =>
      obtain ⟨b, o, rfl, hbl, hall⟩ := H4.out (by omega)
      obtain ⟨t, ht⟩ : ∃ t, ks1[j]? = some t := ⟨_, List.getElem?_eq_getElem hlt⟩
      obtain ⟨k3, u3, n3, ⟨tk3, tn3, tks3⟩, ns3, ks3⟩ := t
      obtain ⟨atks3, ctks3, ans3, cns3, aks3, cks3, q0, q1, q2, q3, q4, q5, q6, q7, hrk⟩ := hall j k3 u3 n3 tk3 tn3 tks3 ns3 ks3 ht
      have hbg := Tm.bulk_get ks1 j _ ht
      have hc := IH.out k3 u3 n3 tk3 tn3 tks3 ns3 ks3 atks3 ctks3 ans3 cns3 aks3 cks3 b (o + j * 8) wr (by have := HK.out; have := HN.out; omega) (by have := HK.out; have := HM.out; omega)  ((HB.out.cell (p := ⟨b, o + j * 8, none⟩) hbl).trans q0) ((HB.out.cell (p := ⟨b, o + j * 8 + 1, none⟩) hbl).trans q1) ((HB.out.cell (p := ⟨b, o + j * 8 + 2, none⟩) hbl).trans q2) ((HB.out.cell (p := ⟨b, o + j * 8 + 3, none⟩) hbl).trans q3) ((HB.out.cell (p := ⟨b, o + j * 8 + 4, none⟩) hbl).trans q4) ((HB.out.cell (p := ⟨b, o + j * 8 + 5, none⟩) hbl).trans q5) ((HB.out.cell (p := ⟨b, o + j * 8 + 6, none⟩) hbl).trans q6) ((HB.out.cell (p := ⟨b, o + j * 8 + 7, none⟩) hbl).trans q7) (HD.out.below HB.out) (hrk.below HB.out)
      have HT := hid ht
      clear hall H4 q0 q1 q2 q3 q4 q5 q6 q7 hrk ht hbg
      cases hq : Tm.anyN (badName ds) (Tm.mk k3 u3 n3 (Ty.mk tk3 tn3 tks3) ns3 ks3)
      case true =>
        rw [hq] at hc
        have HC := hid hc
        have HE := hid (show (!Tm.anyN (badName ds) (Tm.mk k1 u1 n1 (Ty.mk tk1 tn1 tks1) ns1 ks1)) = false by rw [HAN.out, any_y HT.out hq]; rfl)
        clear hc hq
        go_wp2_with fail
        refine HC.out.mono ?_
        rintro e w3 ⟨rfl, hb⟩
        have HB3 := hid (HB.out.trans (hb.mono HB.out.size))
        clear hb z7
        go_wp2_with fail
        go_ret
        exact ⟨ret_bool HE.out.symm, HB3.out⟩
      case false =>
        rw [hq] at hc
        have HC := hid hc
        have HQ := hid hq
        clear hc hq
        go_wp2_with fail
        refine HC.out.mono ?_
        rintro e w3 ⟨rfl, hb⟩
        have HB3 := hid (HB.out.trans (hb.mono HB.out.size))
        clear hb z7
        go_wp2_with fail
        go_roundw
        case rel =>
          refine ⟨j + 1, by omega, by go_num, hid fun i t hi h => ?_, HB3⟩
          rcases Nat.lt_succ_iff_lt_or_eq.1 hi with hi | rfl
          · exact HJ.out i t hi h
          · obtain rfl := Option.some.inj (h.symm.trans HT.out)
            exact HQ.out
        case measure => simp [intOf]; omega
theorem namesFit_all (ds : List Dat) (ads : Option Addr) (cds : Nat) (hD : Dat.bulks ds ≤ 1048576) : ∀ N, NfW ds ads cds N
  | 0 => fun _ _ _ _ _ _ _ _ _ _ _ _ _ _ _ _ _ h => absurd h (by omega)
  | N + 1 => namesFit_step ds ads cds hD N (namesFit_all ds ads cds hD N)
end Go.Proofs.YtgpefnlpbjnjbaaGreat

namespace Go.Proofs.YtgpefnlpbjnjbaaGreat
open Go.ChangeShapes Go.WideShapes Go.ChangeAt Go.RowKit Go.BigFrame
open Go.Sort (grow)
set_option linter.unusedVariables false

set_option maxRecDepth 100000 in
set_option maxHeartbeats 4000000 in
theorem spec_CasesFit (ds : List Dat) (ads : Option Addr) (cds : Nat) (hD : Dat.bulks ds ≤ 1048576) (ks1 : List Tm) (aks1 : Option Addr) (cks1 : Nat) (b1 o1 : Nat) (w : World) (hl2 : 2 ≤ ks1.length) (hlk : ks1.length ≤ 1048576) (hcn : 0 ≤ (conOf (name1 ks1) ds 0).1) (x7 : w.cell? ⟨b1, o1 + 7, none⟩ = some (.slice aks1 ks1.length cks1)) (hd : RdL w (Dat.ds ds) (.slice ads ds.length cds)) (hr : RdL w (Tm.ds ks1) (.slice aks1 ks1.length cks1)) :
    Calls Tryz.prog 89 #[.slice ads ds.length cds, .pointer (some ⟨b1, o1, none⟩)] w fun e w' => e = .returned (.bool (casesEq (ks1.drop 1) (consAt ds (conIdx ds (name1 ks1))))) ∧ Below w.heap.size w w' := by
  obtain ⟨j, m, cs, q, nc, fsc, hj, hcf, hq, hca, -⟩ := con_at hcn
  have HE0 := hid (show casesEq (ks1.drop 1) (consAt ds (conIdx ds (name1 ks1))) = casesEq (ks1.drop 1) cs by unfold conIdx; rw [hcf, hca])
  obtain ⟨_, _, e, h2, h3, h4⟩ := hr.eTm
  simp only [Value.slice.injEq, true_and] at e
  obtain ⟨rfl, rfl⟩ := e
  obtain ⟨b, o, rfl, hbl, hall⟩ := h4 (by omega)
  obtain ⟨t, ht⟩ : ∃ t, ks1[1]? = some t := ⟨_, List.getElem?_eq_getElem (by omega)⟩
  obtain ⟨k3, u3, n3, ⟨tk3, tn3, tks3⟩, ns3, ks3⟩ := t
  have hn3 := name1_get ht
  rw [hn3] at hcf
  obtain ⟨atks3, ctks3, ans3, cns3, aks3, cks3, q0, q1, q2, q3, q4, q5, q6, q7, -⟩ := hall 1 k3 u3 n3 tk3 tn3 tks3 ns3 ks3 ht
  simp only [Nat.one_mul] at q2
  obtain ⟨_, _, e, h2d, h3d, h4d⟩ := hd.eDat
  simp only [Value.slice.injEq, true_and] at e
  obtain ⟨rfl, rfl⟩ := e
  have hjl : j < ds.length := (List.getElem?_eq_some_iff.1 hj).1
  obtain ⟨bd, od, rfl, hbd, halld⟩ := h4d (by omega)
  obtain ⟨acs, ccs, p0, p1, hrd⟩ := halld j m cs hj
  obtain ⟨_, _, e, h2c, h3c, h4c⟩ := hrd.fDat.2.eCon
  simp only [Value.slice.injEq, true_and] at e
  obtain ⟨rfl, rfl⟩ := e
  have hcl : cs.length ≤ 1048576 := by have h1 := Dat.bulk_get ds j _ hj; have h2 := Con.bulks_length cs; simp only [Dat.bulk] at h1; omega
  have hc := spec_Con ds (some ⟨bd, od, none⟩) cds n3 w hD hd
  rw [hcf] at hc
  simp only at hc
  have hdl := Dat.bulks_length ds
  have hjb : (j : Int) ≤ 1048576 := by omega
  have hqb : (q : Int) ≤ 1048576 := by have := (List.getElem?_eq_some_iff.1 hq).1; omega
  have HC := hid hc
  have HBL := hid hbl
  have HALL := hid hall
  have H4C := hid h4c
  have XL := hid (World.block_lt_of_cell? _ _ x7)
  have X7 := hid x7
  have P1 := hid p1
  have HBD := hid hbd
  clear hc hj hcf hca hq ht hn3 q0 q1 q3 q4 q5 q6 q7 h2 h3 h4 h2d h3d h4d halld p0 p1 hrd h2c h3c h4c hall hd hr hcn hdl
  go_enter Tryz.func89, Tryz.ntmps89
  go_wp2_with fail
  refine HC.out.mono ?_
  rintro e w1 ⟨rfl, hb⟩
  have p1 := (hb.cell (p := ⟨bd, od + j * 2 + 1, none⟩) HBD.out).trans P1.out
  have y7 := (hb.cell (p := ⟨b1, o1 + 7, none⟩) XL.out).trans X7.out
  have HB := hid hb
  clear hb x7 q2
  by_cases hll : ks1.length = cs.length + 1
  case neg =>
    have hlb : ((ks1.length : Int) != (cs.length : Int) + 1) = true := by simp; omega
    have HE := hid (HE0.out.trans (casesEq_len _ _ (by rw [List.length_drop]; omega)))
    clear hll
    go_wp2_with fail
    go_ret
    exact ⟨ret_bool HE.out.symm, HB.out⟩
  case pos =>
    have hlb : ((ks1.length : Int) != (cs.length : Int) + 1) = false := by simp; omega
    have HLL := hid hll
    clear hll
    go_wp2_with fail
    clear p1 y7
    go_loopw [8] (fun i wr => ∃ (i0 : Nat), i0 ≤ cs.length ∧ i = .int .i64 i0 ∧ Hid (∀ (i : Nat) t c, i < i0 → (ks1.drop 1)[i]? = some t → cs[i]? = some c → caseFits t c = true) ∧ Hid (Below w.heap.size w wr)) (fun i _ => cs.length - (intOf i).toNat)
    case atStart => exact ⟨0, by omega, rfl, fun i t c hi => absurd hi (by omega), HB⟩
    case round =>
      obtain ⟨i0, hi0, rfl, HJ, HBR⟩ := hrel
      by_cases hlt : i0 < cs.length
      case neg =>
        have HE := hid (HE0.out.trans (casesEq_yes _ _ (by rw [List.length_drop]; have := HLL.out; omega) (fun i t c h1 h2 => HJ.out i t c (by have := (List.getElem?_eq_some_iff.1 h2).1; omega) h1 h2)))
        go_wp2_with fail
        go_ret
        exact ⟨ret_bool HE.out.symm, HBR.out⟩
      case pos =>
        obtain ⟨t, ht⟩ : ∃ t, ks1[i0 + 1]? = some t := ⟨_, List.getElem?_eq_getElem (by have := HLL.out; omega)⟩
        obtain ⟨k4, u4, n4, ⟨tk4, tn4, tks4⟩, ns4, ks4⟩ := t
        obtain ⟨c4, hc4⟩ : ∃ c, cs[i0]? = some c := ⟨_, List.getElem?_eq_getElem hlt⟩
        obtain ⟨m4, fs4⟩ := c4
        obtain ⟨atks4, ctks4, ans4, cns4, aks4, cks4, q0, q1, q2, q3, q4, q5, q6, q7, -⟩ := HALL.out (i0 + 1) k4 u4 n4 tk4 tn4 tks4 ns4 ks4 ht
        obtain ⟨bc, oc, rfl, hbc, hallc⟩ := H4C.out (by omega)
        obtain ⟨afs4, cfs4, s0, s1, hrc⟩ := hallc i0 m4 fs4 hc4
        have HTD := hid (show (ks1.drop 1)[i0]? = some (Tm.mk k4 u4 n4 (Ty.mk tk4 tn4 tks4) ns4 ks4) by rw [List.getElem?_drop, Nat.add_comm]; exact ht)
        have HC4 := hid hc4
        have hcf4 : caseFits (Tm.mk k4 u4 n4 (Ty.mk tk4 tn4 tks4) ns4 ks4) (.mk m4 fs4) = (decide (n4 = m4) && decide (ns4.length = fs4.length)) := rfl
        have HCF := hid hcf4
        have hi1 : (i0 : Int) + 1 ≤ 1048577 := by omega
        have e7 := cell_regrown ((HBR.out.cell (p := ⟨b1, o1 + 7, none⟩) XL.out).trans X7.out)
        have e2 := cell_regrown ((HBR.out.cell (p := ⟨b, o + (i0 + 1) * 8 + 2, none⟩) HBL.out).trans q2)
        have e6 := cell_regrown ((HBR.out.cell (p := ⟨b, o + (i0 + 1) * 8 + 6, none⟩) HBL.out).trans q6)
        have f0 := cell_regrown ((HBR.out.cell (p := ⟨bc, oc + i0 * 2, none⟩) hbc).trans s0)
        have f1 := cell_regrown ((HBR.out.cell (p := ⟨bc, oc + i0 * 2 + 1, none⟩) hbc).trans s1)
        have hix : i0 + 1 < ks1.length := by have := HLL.out; omega
        clear q0 q1 q2 q3 q4 q5 q6 q7 s0 s1 hrc hallc hc4 ht hcf4
        by_cases hnn : n4 = m4
        case neg =>
          have hbn := bytes_ne hnn
          have HF := hid (HCF.out.trans (by rw [decide_eq_false hnn, Bool.false_and]))
          have HE := hid (HE0.out.trans (casesEq_no _ _ _ _ _ HTD.out HC4.out HF.out))
          clear hnn
          go_wp2_with fail
          refine wp_region_quiet_below (by kernel_rfl) (by kernel_rfl) ?_
          repeat (go_big_quiet_step (fail))
          refine wpQuiet_nil ?_
          intro w3 hw'
          obtain ⟨⟨dq, osq⟩, hw''⟩ := hw'
          have hb3 : Below wr.heap.size wr w3 := by subst hw''; exact below_regrown wr dq osq
          clear hw''
          clear e7 e2 e6 f0 f1
          go_wp2_with fail
          go_ret
          exact ⟨ret_bool HE.out.symm, HBR.out.trans (hb3.mono HBR.out.size)⟩
        case pos =>
        have hbn := bytes_eq hnn
        have HNN := hid hnn
        clear hnn
        by_cases hfl : ns4.length = fs4.length
        case neg =>
          have hbf : ((ns4.length : Int) != (fs4.length : Int)) = true := by simp; omega
          have HF := hid (HCF.out.trans (by rw [decide_eq_false hfl, Bool.and_false]))
          have HE := hid (HE0.out.trans (casesEq_no _ _ _ _ _ HTD.out HC4.out HF.out))
          clear hfl
          go_wp2_with fail
          refine wp_region_quiet_below (by kernel_rfl) (by kernel_rfl) ?_
          repeat (go_big_quiet_step (fail))
          refine wpQuiet_nil ?_
          intro w3 hw'
          obtain ⟨⟨dq, osq⟩, hw''⟩ := hw'
          have hb3 : Below wr.heap.size wr w3 := by subst hw''; exact below_regrown wr dq osq
          clear hw''
          clear e7 e2 e6 f0 f1
          go_wp2_with fail
          go_ret
          exact ⟨ret_bool HE.out.symm, HBR.out.trans (hb3.mono HBR.out.size)⟩
        case pos =>
          have hbf : ((ns4.length : Int) != (fs4.length : Int)) = false := by simp [hfl]
          have HF := hid (HCF.out.trans (by rw [decide_eq_true HNN.out, decide_eq_true hfl, Bool.true_and]))
          clear hfl
          go_wp2_with fail
          refine wp_region_quiet_below (by kernel_rfl) (by kernel_rfl) ?_
          repeat (go_big_quiet_step (fail))
          refine wpQuiet_nil ?_
          intro w3 hw'
          obtain ⟨⟨dq, osq⟩, hw''⟩ := hw'
          have hb3 : Below wr.heap.size wr w3 := by subst hw''; exact below_regrown wr dq osq
          clear hw''
          clear e7 e2 e6 f0 f1
          go_wp2_with fail
          go_roundw
          case rel =>
            refine ⟨i0 + 1, by omega, by go_num, hid fun i t c hi h1 h2 => ?_, hid (HBR.out.trans (hb3.mono HBR.out.size))⟩
            rcases Nat.lt_succ_iff_lt_or_eq.1 hi with hi | rfl
            · exact HJ.out i t c hi h1 h2
            · obtain rfl := Option.some.inj (h1.symm.trans HTD.out)
              obtain rfl := Option.some.inj (h2.symm.trans HC4.out)
              exact HF.out
          case measure => simp [intOf]; omega
def UfW (ds : List Dat) (ads : Option Addr) (cds : Nat) (N : Nat) : Prop := ∀ (k1 : Int) (u1 : Int) (n1 : ByteArray) (tk1 : Int) (tn1 : ByteArray) (tks1 : List Ty) (ns1 : List ByteArray) (ks1 : List Tm) (atks1 : Option Addr) (ctks1 : Nat) (ans1 : Option Addr) (cns1 : Nat) (aks1 : Option Addr) (cks1 : Nat) (b1 o1 : Nat) (w : World), Tm.bulk (Tm.mk k1 u1 n1 (Ty.mk tk1 tn1 tks1) ns1 ks1) < N → Tm.bulk (Tm.mk k1 u1 n1 (Ty.mk tk1 tn1 tks1) ns1 ks1) ≤ 1048576 → named1 ds (Tm.mk k1 u1 n1 (Ty.mk tk1 tn1 tks1) ns1 ks1) → w.cell? ⟨b1, o1, none⟩ = some (.int .i64 k1) → w.cell? ⟨b1, o1 + 1, none⟩ = some (.int .i64 u1) → w.cell? ⟨b1, o1 + 2, none⟩ = some (.string n1) → w.cell? ⟨b1, o1 + 3, none⟩ = some (.int .i64 tk1) → w.cell? ⟨b1, o1 + 4, none⟩ = some (.string tn1) → w.cell? ⟨b1, o1 + 5, none⟩ = some (.slice atks1 tks1.length ctks1) → w.cell? ⟨b1, o1 + 6, none⟩ = some (.slice ans1 ns1.length cns1) → w.cell? ⟨b1, o1 + 7, none⟩ = some (.slice aks1 ks1.length cks1) → RdL w (Dat.ds ds) (.slice ads ds.length cds) → RdS w (Tm.d (Tm.mk k1 u1 n1 (Ty.mk tk1 tn1 tks1) ns1 ks1)) [.int .i64 k1, .int .i64 u1, .string n1, .int .i64 tk1, .string tn1, .slice atks1 tks1.length ctks1, .slice ans1 ns1.length cns1, .slice aks1 ks1.length cks1] →
  Calls Tryz.prog 49 #[.slice ads ds.length cds, .pointer (some ⟨b1, o1, none⟩)] w fun e w' => e = .returned (.bool (!Tm.anyN (wrongB ds) (Tm.mk k1 u1 n1 (Ty.mk tk1 tn1 tks1) ns1 ks1))) ∧ Below w.heap.size w w'
set_option maxRecDepth 100000 in
set_option maxHeartbeats 4000000 in
theorem countsFit_step (ds : List Dat) (ads : Option Addr) (cds : Nat) (hD : Dat.bulks ds ≤ 1048576) (N : Nat) (ih : UfW ds ads cds N) : UfW ds ads cds (N + 1) := by
  intro k1 u1 n1 tk1 tn1 tks1 ns1 ks1 atks1 ctks1 ans1 cns1 aks1 cks1 b1 o1 w hN hM hnm x0 x1 x2 x3 x4 x5 x6 x7 hd hr
  have hcn := fun W (hW : Below w.heap.size w W) => spec_Con ds ads cds n1 W hD (hd.below hW)
  have hbk : Tm.bulks ks1 ≤ Tm.bulk (Tm.mk k1 u1 n1 (Ty.mk tk1 tn1 tks1) ns1 ks1) := by simp only [Tm.bulk]; omega
  have hlk : ks1.length ≤ 1048576 := by have := Tm.bulks_length ks1; omega
  have hrk := hr.fTm.2.2.2.2.2
  obtain ⟨_, _, e, h2, h3, h4⟩ := hrk.eTm
  simp only [Value.slice.injEq, true_and] at e
  obtain ⟨rfl, rfl⟩ := e
  have HAN0 := hid (fun p => Tm.anyN_mk p k1 u1 n1 (Ty.mk tk1 tn1 tks1) ns1 ks1)
  have X7 := hid x7
  have XL := hid (World.block_lt_of_cell? _ _ x7)
  have H4 := hid h4
  have HK := hid hbk
  have HM := hid hM
  have HN := hid hN
  have HD := hid hd
  have IH := hid ih
  have HNM := hid hnm
  have HRK := hid hrk
  clear h2 h3 h4 hbk hM hN hd ih hnm hrk
  by_cases hk8 : k1 = 8
  case pos =>
    subst hk8
    obtain ⟨j, m, cs, q, nc, fsc, hj, hcf, hq, -, hfn⟩ := con_at (named1_con HNM.out (.inl rfl))
    have hf := wrongB_con ds u1 n1 (Ty.mk tk1 tn1 tks1) ns1 ks1
    rw [hfn] at hf
    rw [hcf] at hcn
    obtain ⟨_, _, e, h2d, h3d, h4d⟩ := HD.out.eDat
    simp only [Value.slice.injEq, true_and] at e
    obtain ⟨rfl, rfl⟩ := e
    have hjl : j < ds.length := (List.getElem?_eq_some_iff.1 hj).1
    obtain ⟨bd, od, rfl, hbd, halld⟩ := h4d (by omega)
    obtain ⟨acs, ccs, p0, p1, hrd⟩ := halld j m cs hj
    obtain ⟨_, _, e, h2c, h3c, h4c⟩ := hrd.fDat.2.eCon
    simp only [Value.slice.injEq, true_and] at e
    obtain ⟨rfl, rfl⟩ := e
    have hql : q < cs.length := (List.getElem?_eq_some_iff.1 hq).1
    obtain ⟨bc, oc, rfl, hbc, hallc⟩ := h4c (by omega)
    obtain ⟨afc, cfc, s0, s1, hrc⟩ := hallc q nc fsc hq
    have hcl : cs.length ≤ 1048576 := by have h1 := Dat.bulk_get ds j _ hj; have h2 := Con.bulks_length cs; simp only [Dat.bulk] at h1; omega
    have hdl := Dat.bulks_length ds
    have hjb : (j : Int) ≤ 1048576 := by omega
    have hqb : (q : Int) ≤ 1048576 := by omega
    have hfb : fsc.length ≤ 9223372036854775807 := by obtain ⟨a9, c9, e9, h9, h9', -⟩ := hrc.fCon.2.eTy; omega
    have HCN := hid hcn
    have P1 := hid p1
    have S1 := hid s1
    have HBD := hid hbd
    have HBC := hid hbc
    clear hcn hj hcf hq hfn h2d h3d h4d halld p0 p1 hrd h2c h3c h4c hallc s0 s1 hrc hr hdl
    by_cases hl : ks1.length = fsc.length
    case neg =>
      have hlb : ((fsc.length : Int) != (ks1.length : Int)) = true := by simp; omega
      have HE := hid (show (!Tm.anyN (wrongB ds) (Tm.mk 8 u1 n1 (Ty.mk tk1 tn1 tks1) ns1 ks1)) = false by rw [HAN0.out, hf, decide_eq_false hl]; rfl)
      clear hf hl IH H4 HK HM HN HRK HNM
      go_enter Tryz.func49, Tryz.ntmps49
      go_wp2_with fail
      refine (HCN.out _ (Below.refl _ _)).mono ?_
      rintro e w1 ⟨rfl, hb⟩
      have e7 := cell_regrown ((hb.cell (p := ⟨b1, o1 + 7, none⟩) XL.out).trans X7.out)
      have p1 := cell_regrown ((hb.cell (p := ⟨bd, od + j * 2 + 1, none⟩) HBD.out).trans P1.out)
      have s1 := cell_regrown ((hb.cell (p := ⟨bc, oc + q * 2 + 1, none⟩) HBC.out).trans S1.out)
      have HB1 := hid hb
      clear hb x0 x1 x2 x3 x4 x5 x6 x7
      go_wp2_with fail
      refine wp_region_quiet_below (by kernel_rfl) (by kernel_rfl) ?_
      repeat (go_big_quiet_step (fail))
      refine wpQuiet_nil ?_
      intro w3 hw'
      obtain ⟨⟨dq, osq⟩, hw''⟩ := hw'
      have hb3 : Below w1.heap.size w1 w3 := by subst hw''; exact below_regrown w1 dq osq
      clear hw''
      have HB3 := hid (HB1.out.trans (hb3.mono HB1.out.size))
      clear e7 p1 s1 hb3
      go_wp2_with fail
      go_ret
      exact ⟨ret_bool HE.out.symm, HB3.out⟩
    case pos =>
      have hlb : ((fsc.length : Int) != (ks1.length : Int)) = false := by simp [hl]
      have HAN := hid (show Tm.anyN (wrongB ds) (Tm.mk 8 u1 n1 (Ty.mk tk1 tn1 tks1) ns1 ks1) = ks1.any (Tm.anyN (wrongB ds)) by rw [HAN0.out, hf, decide_eq_true hl]; rfl)
      clear hf hl
      go_enter Tryz.func49, Tryz.ntmps49
      go_wp2_with fail
      refine (HCN.out _ (Below.refl _ _)).mono ?_
      rintro e w1 ⟨rfl, hb⟩
      have e7 := cell_regrown ((hb.cell (p := ⟨b1, o1 + 7, none⟩) XL.out).trans X7.out)
      have p1 := cell_regrown ((hb.cell (p := ⟨bd, od + j * 2 + 1, none⟩) HBD.out).trans P1.out)
      have s1 := cell_regrown ((hb.cell (p := ⟨bc, oc + q * 2 + 1, none⟩) HBC.out).trans S1.out)
      have HB1 := hid hb
      clear hb x0 x1 x2 x3 x4 x5 x6 x7
      go_wp2_with fail
      refine wp_region_quiet_below (by kernel_rfl) (by kernel_rfl) ?_
      repeat (go_big_quiet_step (fail))
      refine wpQuiet_nil ?_
      intro w3 hw'
      obtain ⟨⟨dq, osq⟩, hw''⟩ := hw'
      have hb3 : Below w1.heap.size w1 w3 := by subst hw''; exact below_regrown w1 dq osq
      clear hw''
      have HB3 := hid (HB1.out.trans (hb3.mono HB1.out.size))
      clear e7 p1 s1 hb3
      have HBL := HB3
      go_wp2_with fail
      go_loopw [7] (fun i wr => ∃ (j : Nat), j ≤ ks1.length ∧ i = .int .i64 j ∧ Hid (∀ (i : Nat) t, i < j → ks1[i]? = some t → Tm.anyN (wrongB ds) t = false) ∧ Hid (Below w.heap.size w wr)) (fun i _ => ks1.length - (intOf i).toNat)
      case atStart => exact ⟨0, by omega, rfl, fun i t hi => absurd hi (by omega), HBL⟩
      case round =>
        obtain ⟨j, hj, rfl, HJ, HB⟩ := hrel
        have z7 := (HB.out.cell (p := ⟨b1, o1 + 7, none⟩) XL.out).trans X7.out
        by_cases hlt : j < ks1.length
        case neg =>
          have HE := hid (show (!Tm.anyN (wrongB ds) (Tm.mk 8 u1 n1 (Ty.mk tk1 tn1 tks1) ns1 ks1)) = true by rw [HAN.out, any_n (fun i t h => HJ.out i t (by have := (List.getElem?_eq_some_iff.1 h).1; omega) h)]; rfl)
          go_wp2_with fail
          go_ret
          exact ⟨ret_bool HE.out.symm, HB.out⟩
        case pos =>
          obtain ⟨b, o, rfl, hbl, hall⟩ := H4.out (by omega)
          obtain ⟨t, ht⟩ : ∃ t, ks1[j]? = some t := ⟨_, List.getElem?_eq_getElem hlt⟩
          obtain ⟨k3, u3, n3, ⟨tk3, tn3, tks3⟩, ns3, ks3⟩ := t
          obtain ⟨atks3, ctks3, ans3, cns3, aks3, cks3, q0, q1, q2, q3, q4, q5, q6, q7, hrk⟩ := hall j k3 u3 n3 tk3 tn3 tks3 ns3 ks3 ht
          have hbg := Tm.bulk_get ks1 j _ ht
          have hc := IH.out k3 u3 n3 tk3 tn3 tks3 ns3 ks3 atks3 ctks3 ans3 cns3 aks3 cks3 b (o + j * 8) wr (by have := HK.out; have := HN.out; omega) (by have := HK.out; have := HM.out; omega) (named1_kid HNM.out ht) ((HB.out.cell (p := ⟨b, o + j * 8, none⟩) hbl).trans q0) ((HB.out.cell (p := ⟨b, o + j * 8 + 1, none⟩) hbl).trans q1) ((HB.out.cell (p := ⟨b, o + j * 8 + 2, none⟩) hbl).trans q2) ((HB.out.cell (p := ⟨b, o + j * 8 + 3, none⟩) hbl).trans q3) ((HB.out.cell (p := ⟨b, o + j * 8 + 4, none⟩) hbl).trans q4) ((HB.out.cell (p := ⟨b, o + j * 8 + 5, none⟩) hbl).trans q5) ((HB.out.cell (p := ⟨b, o + j * 8 + 6, none⟩) hbl).trans q6) ((HB.out.cell (p := ⟨b, o + j * 8 + 7, none⟩) hbl).trans q7) (HD.out.below HB.out) (hrk.below HB.out)
          have HT := hid ht
          clear hall H4 q0 q1 q2 q3 q4 q5 q6 q7 hrk ht hbg
          cases hq : Tm.anyN (wrongB ds) (Tm.mk k3 u3 n3 (Ty.mk tk3 tn3 tks3) ns3 ks3)
          case true =>
            rw [hq] at hc
            have HC := hid hc
            have HE := hid (show (!Tm.anyN (wrongB ds) (Tm.mk 8 u1 n1 (Ty.mk tk1 tn1 tks1) ns1 ks1)) = false by rw [HAN.out, any_y HT.out hq]; rfl)
            clear hc hq
            go_wp2_with fail
            refine HC.out.mono ?_
            rintro e w3 ⟨rfl, hb⟩
            have HB3 := hid (HB.out.trans (hb.mono HB.out.size))
            clear hb z7
            go_wp2_with fail
            go_ret
            exact ⟨ret_bool HE.out.symm, HB3.out⟩
          case false =>
            rw [hq] at hc
            have HC := hid hc
            have HQ := hid hq
            clear hc hq
            go_wp2_with fail
            refine HC.out.mono ?_
            rintro e w3 ⟨rfl, hb⟩
            have HB3 := hid (HB.out.trans (hb.mono HB.out.size))
            clear hb z7
            go_wp2_with fail
            go_roundw
            case rel =>
              refine ⟨j + 1, by omega, by go_num, hid fun i t hi h => ?_, HB3⟩
              rcases Nat.lt_succ_iff_lt_or_eq.1 hi with hi | rfl
              · exact HJ.out i t hi h
              · obtain rfl := Option.some.inj (h.symm.trans HT.out)
                exact HQ.out
            case measure => simp [intOf]; omega
  case neg =>
  have g8 : (k1 == 8) = false := by simp [hk8]
  by_cases hk9 : k1 = 9
  case pos =>
    subst hk9
    have hf := wrongB_match ds u1 n1 (Ty.mk tk1 tn1 tks1) ns1 ks1
    obtain ⟨hl2, hcn1⟩ := named1_match HNM.out
    have hcf := spec_CasesFit ds ads cds hD ks1 _ cks1 b1 o1 w hl2 hlk hcn1 X7.out HD.out HRK.out
    clear hcn hl2 hcn1
    cases hq : casesEq (ks1.drop 1) (consAt ds (conIdx ds (name1 ks1)))
    case false =>
      rw [hq] at hf hcf
      have HCF := hid hcf
      have HE := hid (show (!Tm.anyN (wrongB ds) (Tm.mk 9 u1 n1 (Ty.mk tk1 tn1 tks1) ns1 ks1)) = false by rw [HAN0.out, hf]; rfl)
      clear hf hq hcf hr IH H4 HK HM HN HRK HNM
      go_enter Tryz.func49, Tryz.ntmps49
      go_wp2_with fail
      refine HCF.out.mono ?_
      rintro e w1 ⟨rfl, hb⟩
      go_wp2_with fail
      go_ret
      exact ⟨ret_bool HE.out.symm, hb⟩
    case true =>
      rw [hq] at hf hcf
      have HCF := hid hcf
      have HAN := hid (show Tm.anyN (wrongB ds) (Tm.mk 9 u1 n1 (Ty.mk tk1 tn1 tks1) ns1 ks1) = ks1.any (Tm.anyN (wrongB ds)) by rw [HAN0.out, hf]; rfl)
      clear hf hq hcf hr
      go_enter Tryz.func49, Tryz.ntmps49
      go_wp2_with fail
      refine HCF.out.mono ?_
      rintro e w1 ⟨rfl, hb⟩
      have HBL := hid hb
      clear hb x0 x1 x2 x3 x4 x5 x6 x7
      go_wp2_with fail
      go_loopw [7] (fun i wr => ∃ (j : Nat), j ≤ ks1.length ∧ i = .int .i64 j ∧ Hid (∀ (i : Nat) t, i < j → ks1[i]? = some t → Tm.anyN (wrongB ds) t = false) ∧ Hid (Below w.heap.size w wr)) (fun i _ => ks1.length - (intOf i).toNat)
      case atStart => exact ⟨0, by omega, rfl, fun i t hi => absurd hi (by omega), HBL⟩
      case round =>
        obtain ⟨j, hj, rfl, HJ, HB⟩ := hrel
        have z7 := (HB.out.cell (p := ⟨b1, o1 + 7, none⟩) XL.out).trans X7.out
        by_cases hlt : j < ks1.length
        case neg =>
          have HE := hid (show (!Tm.anyN (wrongB ds) (Tm.mk 9 u1 n1 (Ty.mk tk1 tn1 tks1) ns1 ks1)) = true by rw [HAN.out, any_n (fun i t h => HJ.out i t (by have := (List.getElem?_eq_some_iff.1 h).1; omega) h)]; rfl)
          go_wp2_with fail
          go_ret
          exact ⟨ret_bool HE.out.symm, HB.out⟩
        case pos =>
          obtain ⟨b, o, rfl, hbl, hall⟩ := H4.out (by omega)
          obtain ⟨t, ht⟩ : ∃ t, ks1[j]? = some t := ⟨_, List.getElem?_eq_getElem hlt⟩
          obtain ⟨k3, u3, n3, ⟨tk3, tn3, tks3⟩, ns3, ks3⟩ := t
          obtain ⟨atks3, ctks3, ans3, cns3, aks3, cks3, q0, q1, q2, q3, q4, q5, q6, q7, hrk⟩ := hall j k3 u3 n3 tk3 tn3 tks3 ns3 ks3 ht
          have hbg := Tm.bulk_get ks1 j _ ht
          have hc := IH.out k3 u3 n3 tk3 tn3 tks3 ns3 ks3 atks3 ctks3 ans3 cns3 aks3 cks3 b (o + j * 8) wr (by have := HK.out; have := HN.out; omega) (by have := HK.out; have := HM.out; omega) (named1_kid HNM.out ht) ((HB.out.cell (p := ⟨b, o + j * 8, none⟩) hbl).trans q0) ((HB.out.cell (p := ⟨b, o + j * 8 + 1, none⟩) hbl).trans q1) ((HB.out.cell (p := ⟨b, o + j * 8 + 2, none⟩) hbl).trans q2) ((HB.out.cell (p := ⟨b, o + j * 8 + 3, none⟩) hbl).trans q3) ((HB.out.cell (p := ⟨b, o + j * 8 + 4, none⟩) hbl).trans q4) ((HB.out.cell (p := ⟨b, o + j * 8 + 5, none⟩) hbl).trans q5) ((HB.out.cell (p := ⟨b, o + j * 8 + 6, none⟩) hbl).trans q6) ((HB.out.cell (p := ⟨b, o + j * 8 + 7, none⟩) hbl).trans q7) (HD.out.below HB.out) (hrk.below HB.out)
          have HT := hid ht
          clear hall H4 q0 q1 q2 q3 q4 q5 q6 q7 hrk ht hbg
          cases hq : Tm.anyN (wrongB ds) (Tm.mk k3 u3 n3 (Ty.mk tk3 tn3 tks3) ns3 ks3)
          case true =>
            rw [hq] at hc
            have HC := hid hc
            have HE := hid (show (!Tm.anyN (wrongB ds) (Tm.mk 9 u1 n1 (Ty.mk tk1 tn1 tks1) ns1 ks1)) = false by rw [HAN.out, any_y HT.out hq]; rfl)
            clear hc hq
            go_wp2_with fail
            refine HC.out.mono ?_
            rintro e w3 ⟨rfl, hb⟩
            have HB3 := hid (HB.out.trans (hb.mono HB.out.size))
            clear hb z7
            go_wp2_with fail
            go_ret
            exact ⟨ret_bool HE.out.symm, HB3.out⟩
          case false =>
            rw [hq] at hc
            have HC := hid hc
            have HQ := hid hq
            clear hc hq
            go_wp2_with fail
            refine HC.out.mono ?_
            rintro e w3 ⟨rfl, hb⟩
            have HB3 := hid (HB.out.trans (hb.mono HB.out.size))
            clear hb z7
            go_wp2_with fail
            go_roundw
            case rel =>
              refine ⟨j + 1, by omega, by go_num, hid fun i t hi h => ?_, HB3⟩
              rcases Nat.lt_succ_iff_lt_or_eq.1 hi with hi | rfl
              · exact HJ.out i t hi h
              · obtain rfl := Option.some.inj (h.symm.trans HT.out)
                exact HQ.out
            case measure => simp [intOf]; omega
  case neg =>
  have g9 : (k1 == 9) = false := by simp [hk9]
  have HAN := hid (show Tm.anyN (wrongB ds) (Tm.mk k1 u1 n1 (Ty.mk tk1 tn1 tks1) ns1 ks1) = ks1.any (Tm.anyN (wrongB ds)) by rw [HAN0.out, wrongB_else ds hk8 hk9]; rfl)
  have HBL := hid (Below.refl w.heap.size w)
  clear hcn hr hk8 hk9
  go_enter Tryz.func49, Tryz.ntmps49
  go_wp2_with fail
  clear x0 x1 x2 x3 x4 x5 x6 x7
  go_loopw [7] (fun i wr => ∃ (j : Nat), j ≤ ks1.length ∧ i = .int .i64 j ∧ Hid (∀ (i : Nat) t, i < j → ks1[i]? = some t → Tm.anyN (wrongB ds) t = false) ∧ Hid (Below w.heap.size w wr)) (fun i _ => ks1.length - (intOf i).toNat)
  case atStart => exact ⟨0, by omega, rfl, fun i t hi => absurd hi (by omega), HBL⟩
  case round =>
    obtain ⟨j, hj, rfl, HJ, HB⟩ := hrel
    have z7 := (HB.out.cell (p := ⟨b1, o1 + 7, none⟩) XL.out).trans X7.out
    by_cases hlt : j < ks1.length
    case neg =>
      have HE := hid (show (!Tm.anyN (wrongB ds) (Tm.mk k1 u1 n1 (Ty.mk tk1 tn1 tks1) ns1 ks1)) = true by rw [HAN.out, any_n (fun i t h => HJ.out i t (by have := (List.getElem?_eq_some_iff.1 h).1; omega) h)]; rfl)
      go_wp2_with fail
      go_ret
      exact ⟨ret_bool HE.out.symm, HB.out⟩
    case pos =>
      obtain ⟨b, o, rfl, hbl, hall⟩ := H4.out (by omega)
      obtain ⟨t, ht⟩ : ∃ t, ks1[j]? = some t := ⟨_, List.getElem?_eq_getElem hlt⟩
      obtain ⟨k3, u3, n3, ⟨tk3, tn3, tks3⟩, ns3, ks3⟩ := t
      obtain ⟨atks3, ctks3, ans3, cns3, aks3, cks3, q0, q1, q2, q3, q4, q5, q6, q7, hrk⟩ := hall j k3 u3 n3 tk3 tn3 tks3 ns3 ks3 ht
      have hbg := Tm.bulk_get ks1 j _ ht
      have hc := IH.out k3 u3 n3 tk3 tn3 tks3 ns3 ks3 atks3 ctks3 ans3 cns3 aks3 cks3 b (o + j * 8) wr (by have := HK.out; have := HN.out; omega) (by have := HK.out; have := HM.out; omega) (named1_kid HNM.out ht) ((HB.out.cell (p := ⟨b, o + j * 8, none⟩) hbl).trans q0) ((HB.out.cell (p := ⟨b, o + j * 8 + 1, none⟩) hbl).trans q1) ((HB.out.cell (p := ⟨b, o + j * 8 + 2, none⟩) hbl).trans q2) ((HB.out.cell (p := ⟨b, o + j * 8 + 3, none⟩) hbl).trans q3) ((HB.out.cell (p := ⟨b, o + j * 8 + 4, none⟩) hbl).trans q4) ((HB.out.cell (p := ⟨b, o + j * 8 + 5, none⟩) hbl).trans q5) ((HB.out.cell (p := ⟨b, o + j * 8 + 6, none⟩) hbl).trans q6) ((HB.out.cell (p := ⟨b, o + j * 8 + 7, none⟩) hbl).trans q7) (HD.out.below HB.out) (hrk.below HB.out)
      have HT := hid ht
      clear hall H4 q0 q1 q2 q3 q4 q5 q6 q7 hrk ht hbg
      cases hq : Tm.anyN (wrongB ds) (Tm.mk k3 u3 n3 (Ty.mk tk3 tn3 tks3) ns3 ks3)
      case true =>
        rw [hq] at hc
        have HC := hid hc
        have HE := hid (show (!Tm.anyN (wrongB ds) (Tm.mk k1 u1 n1 (Ty.mk tk1 tn1 tks1) ns1 ks1)) = false by rw [HAN.out, any_y HT.out hq]; rfl)
        clear hc hq
        go_wp2_with fail
        refine HC.out.mono ?_
        rintro e w3 ⟨rfl, hb⟩
        have HB3 := hid (HB.out.trans (hb.mono HB.out.size))
        clear hb z7
        go_wp2_with fail
        go_ret
        exact ⟨ret_bool HE.out.symm, HB3.out⟩
      case false =>
        rw [hq] at hc
        have HC := hid hc
        have HQ := hid hq
        clear hc hq
        go_wp2_with fail
        refine HC.out.mono ?_
        rintro e w3 ⟨rfl, hb⟩
        have HB3 := hid (HB.out.trans (hb.mono HB.out.size))
        clear hb z7
        go_wp2_with fail
        go_roundw
        case rel =>
          refine ⟨j + 1, by omega, by go_num, hid fun i t hi h => ?_, HB3⟩
          rcases Nat.lt_succ_iff_lt_or_eq.1 hi with hi | rfl
          · exact HJ.out i t hi h
          · obtain rfl := Option.some.inj (h.symm.trans HT.out)
            exact HQ.out
        case measure => simp [intOf]; omega
theorem countsFit_all (ds : List Dat) (ads : Option Addr) (cds : Nat) (hD : Dat.bulks ds ≤ 1048576) : ∀ N, UfW ds ads cds N
  | 0 => fun _ _ _ _ _ _ _ _ _ _ _ _ _ _ _ _ _ h => absurd h (by omega)
  | N + 1 => countsFit_step ds ads cds hD N (countsFit_all ds ads cds hD N)
end Go.Proofs.YtgpefnlpbjnjbaaGreat

namespace Go.Proofs.YtgpefnlpbjnjbaaGreat
open Go.ChangeShapes Go.WideShapes Go.ChangeAt Go.RowKit Go.BigFrame
open Go.Sort (grow)
set_option linter.unusedVariables false

set_option maxRecDepth 100000 in
set_option maxHeartbeats 4000000 in
theorem spec_l03Program (ds1 : List Dat) (fs1 : List Df) (ads1 : Option Addr) (cds1 : Nat) (afs1 : Option Addr) (cfs1 : Nat) (b1 o1 : Nat) (w : World) (hM : Pg.bulk (Pg.mk ds1 fs1) ≤ 1048576) (x0 : w.cell? ⟨b1, o1, none⟩ = some (.slice ads1 ds1.length cds1)) (x1 : w.cell? ⟨b1, o1 + 1, none⟩ = some (.slice afs1 fs1.length cfs1)) (hr : RdS w (Pg.d (Pg.mk ds1 fs1)) [.slice ads1 ds1.length cds1, .slice afs1 fs1.length cfs1]) :
    Calls Tryz.prog 44 #[.pointer (some ⟨b1, o1, none⟩)] w fun e w' => e = .returned (.bool (progOk ds1 fs1)) ∧ Below w.heap.size w w' := by
  have hlen := Df.bulks_length fs1
  have hfl := hr.fPg.2
  have hdl := hr.fPg.1
  have hMd : Dat.bulks ds1 ≤ 1048576 := by simp only [Pg.bulk] at hM; omega
  have hMf : Df.bulks fs1 ≤ 1048576 := by simp only [Pg.bulk] at hM; omega
  have HFL := hid hfl
  have HMF := hid hMf
  obtain ⟨_, _, e, h2, h3, h4⟩ := hfl.eDf
  simp only [Value.slice.injEq, true_and] at e
  obtain ⟨rfl, rfl⟩ := e
  have H4 := hid h4
  have hlk : fs1.length ≤ 1048576 := by omega
  have XL := hid (World.block_lt_of_cell? _ _ x1)
  have X1 := hid x1
  have hd := spec_l02Ok ds1 ads1 cds1 w hMd hdl
  clear hr hfl hdl hM hMd hMf h4 h2 h3 hlen
  by_cases hdo : datasOk ds1 = true
  case neg =>
    have HF := hid (show progOk ds1 fs1 = false by simp [progOk, hdo])
    rw [(Bool.not_eq_true _).mp hdo] at hd
    have HD := hid hd
    clear hd hdo
    go_enter Tryz.func44, Tryz.ntmps44
    go_wp2_with fail
    refine HD.out.mono ?_
    rintro e w1 ⟨rfl, hb⟩
    have HB1 := hid hb
    clear hb x0 x1
    go_wp2_with fail
    go_ret
    exact ⟨ret_bool HF.out.symm, HB1.out⟩
  case pos =>
  have HF0 := hid (show progOk ds1 fs1 = (inR fs1.length 1 8 && dfsOk fs1 fs1 0) by rw [progOk, hdo]; rfl)
  rw [hdo] at hd
  have HD := hid hd
  clear hd hdo
  by_cases hin : inR fs1.length 1 8 = true
  case neg =>
    have HF := hid (show progOk ds1 fs1 = false by rw [HF0.out, (Bool.not_eq_true _).mp hin]; rfl)
    have HIN := hid ((Bool.not_eq_true _).mp hin)
    clear hin
    go_enter Tryz.func44, Tryz.ntmps44
    go_wp2_with fail
    refine HD.out.mono ?_
    rintro e w1 ⟨rfl, hb⟩
    have HB1 := hid hb
    have z1 := (hb.cell (p := ⟨b1, o1 + 1, none⟩) XL.out).trans X1.out
    clear hb x0 x1
    go_wp2_with fail
    refine (spec_In _ _ _ _).mono ?_
    rw [HIN.out]
    rintro e w2 ⟨rfl, rfl⟩
    go_wp2_with fail
    go_ret
    exact ⟨ret_bool HF.out.symm, HB1.out⟩
  case pos =>
  have HF := hid (show progOk ds1 fs1 = dfsOk fs1 fs1 0 by rw [HF0.out, hin]; rfl)
  have HIN := hid hin
  clear hin
  go_enter Tryz.func44, Tryz.ntmps44
  go_wp2_with fail
  refine HD.out.mono ?_
  rintro e w1 ⟨rfl, hb⟩
  have HB1 := hid hb
  have z1 := (hb.cell (p := ⟨b1, o1 + 1, none⟩) XL.out).trans X1.out
  clear hb x0 x1
  go_wp2_with fail
  refine (spec_In _ _ _ _).mono ?_
  rw [HIN.out]
  rintro e w2 ⟨rfl, rfl⟩
  clear HD
  go_wp2_with fail
  go_loopw [3] (fun i wr => ∃ (j : Nat), j ≤ fs1.length ∧ i = .int .i64 j ∧ Hid (∀ (i : Nat) t, i < j → fs1[i]? = some t → dfOk fs1 i t = true) ∧ Below w.heap.size w wr) (fun i _ => fs1.length - (intOf i).toNat)
  case atStart => exact ⟨0, by omega, rfl, fun i t hi => absurd hi (by omega), HB1.out⟩
  case round =>
    obtain ⟨j, hj, rfl, HJ, hb0⟩ := hrel
    have zr1 := (hb0.cell (p := ⟨b1, o1 + 1, none⟩) XL.out).trans X1.out
    have zq1 := cell_regrown zr1
    by_cases hlt : j < fs1.length
    case neg =>
      go_wp2_with fail
      go_ret
      exact ⟨ret_bool (by rw [HF.out, dfsOk_yes fs1 fs1 0 fun i t hti => by rw [Nat.zero_add]; exact HJ.out i t (by have := (List.getElem?_eq_some_iff.1 hti).1; omega) hti]), hb0⟩
    case pos =>
      obtain ⟨b, o, rfl, hbl, hall⟩ := H4.out (by omega)
      obtain ⟨t, ht⟩ : ∃ t, fs1[j]? = some t := ⟨_, List.getElem?_eq_getElem hlt⟩
      obtain ⟨n3, ⟨tk3, tn3, tks3⟩, ⟨bk3, bu3, bn3, ⟨btk3, btn3, btks3⟩, bns3, bks3⟩⟩ := t
      obtain ⟨atks3, ctks3, abtks3, cbtks3, abns3, cbns3, abks3, cbks3, q0, q1, q2, q3, q4, q5, q6, q7, q8, q9, q10, q11, hrk⟩ := hall j n3 tk3 tn3 tks3 bk3 bu3 bn3 btk3 btn3 btks3 bns3 bks3 ht
      clear hall H4
      have HT := hid ht
      have hbg := Df.bulk_get fs1 j _ ht
      have hbk : Df.bulk (Df.mk n3 (Ty.mk tk3 tn3 tks3) (Tm.mk bk3 bu3 bn3 (Ty.mk btk3 btn3 btks3) bns3 bks3)) = n3.size + Ty.bulk (Ty.mk tk3 tn3 tks3) + Tm.bulk (Tm.mk bk3 bu3 bn3 (Ty.mk btk3 btn3 btks3) bns3 bks3) := rfl
      have hMt : Ty.bulk (Ty.mk tk3 tn3 tks3) ≤ 1048576 := by have := HMF.out; omega
      have hMb : Tm.bulk (Tm.mk bk3 bu3 bn3 (Ty.mk btk3 btn3 btks3) bns3 bks3) ≤ 1048576 := by have := HMF.out; omega
      have HLE := hid (namedF_le fs1 j n3 (Ty.mk tk3 tn3 tks3) (Tm.mk bk3 bu3 bn3 (Ty.mk btk3 btn3 btks3) bns3 bks3) ht)
      have HB := hid hb0
      have q0r := cell_regrown ((HB.out.cell (p := ⟨b, o + j * 12, none⟩) hbl).trans q0)
      have q1r := cell_regrown ((HB.out.cell (p := ⟨b, o + j * 12 + 1, none⟩) hbl).trans q1)
      have q2r := cell_regrown ((HB.out.cell (p := ⟨b, o + j * 12 + 2, none⟩) hbl).trans q2)
      have q3r := cell_regrown ((HB.out.cell (p := ⟨b, o + j * 12 + 3, none⟩) hbl).trans q3)
      have q4r := cell_regrown ((HB.out.cell (p := ⟨b, o + j * 12 + 4, none⟩) hbl).trans q4)
      have q5r := cell_regrown ((HB.out.cell (p := ⟨b, o + j * 12 + 5, none⟩) hbl).trans q5)
      have q6r := cell_regrown ((HB.out.cell (p := ⟨b, o + j * 12 + 6, none⟩) hbl).trans q6)
      have q7r := cell_regrown ((HB.out.cell (p := ⟨b, o + j * 12 + 7, none⟩) hbl).trans q7)
      have q8r := cell_regrown ((HB.out.cell (p := ⟨b, o + j * 12 + 8, none⟩) hbl).trans q8)
      have q9r := cell_regrown ((HB.out.cell (p := ⟨b, o + j * 12 + 9, none⟩) hbl).trans q9)
      have q10r := cell_regrown ((HB.out.cell (p := ⟨b, o + j * 12 + 10, none⟩) hbl).trans q10)
      have q11r := cell_regrown ((HB.out.cell (p := ⟨b, o + j * 12 + 11, none⟩) hbl).trans q11)
      have hv := fun d os => Calls.regrown_of (spec_IsLower n3 (grow (redrawn wr d) os))
      have hn := fun d os => Calls.regrown_of (calls_below (spec_l03Named fs1 (some ⟨b, o, none⟩) cfs1 n3 (grow (redrawn wr d) os) ((HFL.out.below HB.out).below (below_regrown wr d os))))
      have hvt := fun d os => Calls.regrown_of (spec_ValidType tk3 tn3 tks3 atks3 ctks3 (grow (redrawn wr d) os) hMt (((RdS.subDf_t hrk).below HB.out).below (below_regrown wr d os)))
      have hvb := fun d os => Calls.regrown_of (spec_l03Ok bk3 bu3 bn3 btk3 btn3 btks3 bns3 bks3 abtks3 cbtks3 abns3 cbns3 abks3 cbks3 b (o + j * 12 + 4) (grow (redrawn wr d) os) hMb (q4r d os) (q5r d os) (q6r d os) (q7r d os) (q8r d os) (q9r d os) (q10r d os) (q11r d os) (((RdS.subDf_b hrk).below HB.out).below (below_regrown wr d os)))
      generalize hr2 : namedF fs1 n3 = r at hn
      have HR2 := hid hr2
      clear ht hrk hbg hbk hMt hMb hr2 hb0
      by_cases t1 : isLowerB n3 = true
      case neg =>
        have HDF := hid (show dfOk fs1 j (Df.mk n3 (Ty.mk tk3 tn3 tks3) (Tm.mk bk3 bu3 bn3 (Ty.mk btk3 btn3 btks3) bns3 bks3)) = false by rw [dfOk_eq]; simp [t1])
        rw [(Bool.not_eq_true _).mp t1] at hv
        have HV := hid hv
        have HN := hid hn
        have HTY := hid hvt
        have HTM := hid hvb
        clear hv hn hvt hvb t1
        go_wp2_with fail
        refine wp_region_quiet_below (by kernel_rfl) (by kernel_rfl) ?_
        repeat (go_big_quiet_step (first | exact HV.out _ _ | exact HN.out _ _ | exact HTY.out _ _ | exact HTM.out _ _))
        refine wpQuiet_nil ?_
        intro _ hw'
        obtain ⟨⟨dq, osq⟩, hw''⟩ := hw'
        subst hw''
        have hbw := HB.out.trans ((below_regrown wr dq osq).mono HB.out.size)
        clear HV HN HTY HTM zr1 zq1 q0r q1r q2r q3r q4r q5r q6r q7r q8r q9r q10r q11r q0 q1 q2 q3 q4 q5 q6 q7 q8 q9 q10 q11
        go_wp2_with fail
        go_ret
        exact ⟨ret_bool (by rw [HF.out, dfsOk_no fs1 fs1 0 j _ HT.out (by rw [Nat.zero_add]; exact HDF.out)]), hbw⟩
      case pos =>
      by_cases t2 : namedF fs1 n3 = j
      case neg =>
        have HDF := hid (show dfOk fs1 j (Df.mk n3 (Ty.mk tk3 tn3 tks3) (Tm.mk bk3 bu3 bn3 (Ty.mk btk3 btn3 btks3) bns3 bks3)) = false by rw [dfOk_eq]; simp [t1, t2])
        rw [t1] at hv
        have g2 : (r == (j : Int)) = false := by rw [← HR2.out]; simpa using t2
        have g2' : (r != (j : Int)) = true := by rw [← HR2.out]; simpa using t2
        have HV := hid hv
        have HN := hid hn
        have HTY := hid hvt
        have HTM := hid hvb
        clear hv hn hvt hvb t1 t2
        go_wp2_with fail
        refine wp_region_quiet_below (by kernel_rfl) (by kernel_rfl) ?_
        repeat (go_big_quiet_step (first | exact HV.out _ _ | exact HN.out _ _ | exact HTY.out _ _ | exact HTM.out _ _))
        refine wpQuiet_nil ?_
        intro _ hw'
        obtain ⟨⟨dq, osq⟩, hw''⟩ := hw'
        subst hw''
        have hbw := HB.out.trans ((below_regrown wr dq osq).mono HB.out.size)
        clear HV HN HTY HTM zr1 zq1 q0r q1r q2r q3r q4r q5r q6r q7r q8r q9r q10r q11r q0 q1 q2 q3 q4 q5 q6 q7 q8 q9 q10 q11
        go_wp2_with fail
        go_ret
        exact ⟨ret_bool (by rw [HF.out, dfsOk_no fs1 fs1 0 j _ HT.out (by rw [Nat.zero_add]; exact HDF.out)]), hbw⟩
      case pos =>
      by_cases t3 : Ty.ok (Ty.mk tk3 tn3 tks3) = true
      case neg =>
        have HDF := hid (show dfOk fs1 j (Df.mk n3 (Ty.mk tk3 tn3 tks3) (Tm.mk bk3 bu3 bn3 (Ty.mk btk3 btn3 btks3) bns3 bks3)) = false by rw [dfOk_eq]; simp [t1, t2, t3])
        rw [t1] at hv
        rw [(Bool.not_eq_true _).mp t3] at hvt
        have g2 : (r == (j : Int)) = true := by rw [← HR2.out, t2]; simp
        have g2' : (r != (j : Int)) = false := by rw [← HR2.out, t2]; simp
        have HV := hid hv
        have HN := hid hn
        have HTY := hid hvt
        have HTM := hid hvb
        clear hv hn hvt hvb t1 t2 t3
        go_wp2_with fail
        refine wp_region_quiet_below (by kernel_rfl) (by kernel_rfl) ?_
        repeat (go_big_quiet_step (first | exact HV.out _ _ | exact HN.out _ _ | exact HTY.out _ _ | exact HTM.out _ _))
        refine wpQuiet_nil ?_
        intro _ hw'
        obtain ⟨⟨dq, osq⟩, hw''⟩ := hw'
        subst hw''
        have hbw := HB.out.trans ((below_regrown wr dq osq).mono HB.out.size)
        clear HV HN HTY HTM zr1 zq1 q0r q1r q2r q3r q4r q5r q6r q7r q8r q9r q10r q11r q0 q1 q2 q3 q4 q5 q6 q7 q8 q9 q10 q11
        go_wp2_with fail
        go_ret
        exact ⟨ret_bool (by rw [HF.out, dfsOk_no fs1 fs1 0 j _ HT.out (by rw [Nat.zero_add]; exact HDF.out)]), hbw⟩
      case pos =>
      by_cases t4 : Tm.ok (Tm.mk bk3 bu3 bn3 (Ty.mk btk3 btn3 btks3) bns3 bks3) = true
      case neg =>
        have HDF := hid (show dfOk fs1 j (Df.mk n3 (Ty.mk tk3 tn3 tks3) (Tm.mk bk3 bu3 bn3 (Ty.mk btk3 btn3 btks3) bns3 bks3)) = false by rw [dfOk_eq]; simp [t1, t2, t3, t4])
        rw [t1] at hv
        rw [t3] at hvt
        rw [(Bool.not_eq_true _).mp t4] at hvb
        have g2 : (r == (j : Int)) = true := by rw [← HR2.out, t2]; simp
        have g2' : (r != (j : Int)) = false := by rw [← HR2.out, t2]; simp
        have HV := hid hv
        have HN := hid hn
        have HTY := hid hvt
        have HTM := hid hvb
        clear hv hn hvt hvb t1 t2 t3 t4
        go_wp2_with fail
        refine wp_region_quiet_below (by kernel_rfl) (by kernel_rfl) ?_
        repeat (go_big_quiet_step (first | exact HV.out _ _ | exact HN.out _ _ | exact HTY.out _ _ | exact HTM.out _ _))
        refine wpQuiet_nil ?_
        intro _ hw'
        obtain ⟨⟨dq, osq⟩, hw''⟩ := hw'
        subst hw''
        have hbw := HB.out.trans ((below_regrown wr dq osq).mono HB.out.size)
        clear HV HN HTY HTM zr1 zq1 q0r q1r q2r q3r q4r q5r q6r q7r q8r q9r q10r q11r q0 q1 q2 q3 q4 q5 q6 q7 q8 q9 q10 q11
        go_wp2_with fail
        go_ret
        exact ⟨ret_bool (by rw [HF.out, dfsOk_no fs1 fs1 0 j _ HT.out (by rw [Nat.zero_add]; exact HDF.out)]), hbw⟩
      case pos =>
      have HDF := hid (show dfOk fs1 j (Df.mk n3 (Ty.mk tk3 tn3 tks3) (Tm.mk bk3 bu3 bn3 (Ty.mk btk3 btn3 btks3) bns3 bks3)) = true by rw [dfOk_eq]; simp [t1, t2, t3, t4])
      rw [t1] at hv
      rw [t3] at hvt
      rw [t4] at hvb
      have g2 : (r == (j : Int)) = true := by rw [← HR2.out, t2]; simp
      have g2' : (r != (j : Int)) = false := by rw [← HR2.out, t2]; simp
      have HV := hid hv
      have HN := hid hn
      have HTY := hid hvt
      have HTM := hid hvb
      clear hv hn hvt hvb t1 t2 t3 t4
      go_wp2_with fail
      refine wp_region_quiet_below (by kernel_rfl) (by kernel_rfl) ?_
      repeat (go_big_quiet_step (first | exact HV.out _ _ | exact HN.out _ _ | exact HTY.out _ _ | exact HTM.out _ _))
      refine wpQuiet_nil ?_
      intro _ hw'
      obtain ⟨⟨dq, osq⟩, hw''⟩ := hw'
      subst hw''
      have hbw := HB.out.trans ((below_regrown wr dq osq).mono HB.out.size)
      clear HV HN HTY HTM zr1 zq1 q0r q1r q2r q3r q4r q5r q6r q7r q8r q9r q10r q11r q0 q1 q2 q3 q4 q5 q6 q7 q8 q9 q10 q11
      go_wp2_with fail
      go_roundw
      case rel => exact ⟨j + 1, by omega, by go_num, fun i t hi hti => (Nat.lt_succ_iff_lt_or_eq.1 hi).elim (fun hi => HJ.out i t hi hti) (fun he => by subst he; obtain rfl := Option.some.inj (hti.symm.trans HT.out); exact HDF.out), hbw⟩
      case measure => simp [intOf]; omega

end Go.Proofs.YtgpefnlpbjnjbaaGreat

namespace Go.Proofs.YtgpefnlpbjnjbaaGreat
open Go.ChangeShapes Go.WideShapes Go.ChangeAt Go.RowKit Go.BigFrame
open Go.Sort (grow)
set_option linter.unusedVariables false

set_option maxRecDepth 100000 in
set_option maxHeartbeats 8000000 in
theorem spec_l03Names (ds1 : List Dat) (fs1 : List Df) (ads1 : Option Addr) (cds1 : Nat) (afs1 : Option Addr) (cfs1 : Nat) (b1 o1 : Nat) (w : World) (hM : Pg.bulk (Pg.mk ds1 fs1) ≤ 1048576) (x0 : w.cell? ⟨b1, o1, none⟩ = some (.slice ads1 ds1.length cds1)) (x1 : w.cell? ⟨b1, o1 + 1, none⟩ = some (.slice afs1 fs1.length cfs1)) (hr : RdS w (Pg.d (Pg.mk ds1 fs1)) [.slice ads1 ds1.length cds1, .slice afs1 fs1.length cfs1]) :
    Calls Tryz.prog 21 #[.pointer (some ⟨b1, o1, none⟩)] w fun e w' => e = .returned (.int .i64 (checkN (.mk ds1 fs1))) ∧ Below w.heap.size w w' := by
  have HC := hid (spec_l03Program ds1 fs1 ads1 cds1 afs1 cfs1 b1 o1 w hM x0 x1 hr)
  have hlen := Df.bulks_length fs1
  have hbp : Pg.bulk (Pg.mk ds1 fs1) = Dat.bulks ds1 + Df.bulks fs1 := rfl
  have hMD : Dat.bulks ds1 ≤ 1048576 := by omega
  have HMF := hid (show Df.bulks fs1 ≤ 1048576 by omega)
  have X0 := hid x0
  have X1 := hid x1
  have XL := hid (World.block_lt_of_cell? _ _ x0)
  have HFD := hid hr.fPg.1
  have HFL := hid hr.fPg.2
  have hlf : fs1.length ≤ 1048576 := by omega
  by_cases hok : progOk ds1 fs1 = true
  case neg =>
    have hf := (Bool.not_eq_true _).mp hok
    rw [hf] at HC
    have HE := hid (checkN_bad hf)
    clear hf hok hr hM hbp hlen
    go_enter Tryz.func21, Tryz.ntmps21
    go_wp2_with fail
    refine HC.out.mono ?_
    rintro e w1 ⟨rfl, hb⟩
    go_wp2_with fail
    go_ret
    exact ⟨ret_int HE.out.symm, hb⟩
  case pos =>
  rw [hok] at HC
  have HOK := hid hok
  obtain ⟨_, _, e, h2, h3, h4⟩ := hr.fPg.2.eDf
  simp only [Value.slice.injEq, true_and] at e
  obtain ⟨rfl, rfl⟩ := e
  have H4 := hid h4
  clear h2 h3 h4 hok hr hM hbp hlen
  go_enter Tryz.func21, Tryz.ntmps21
  go_wp2_with fail
  refine HC.out.mono ?_
  rintro e w1 ⟨rfl, hb⟩
  have HB1 := hid hb
  clear hb x0 x1 HC
  go_wp2_with fail
  go_loopw [3] (fun i wr => ∃ (j : Nat), j ≤ fs1.length ∧ i = .int .i64 j ∧ Hid (∀ (i : Nat) t, i < j → fs1[i]? = some t → unknownD ds1 fs1 t = false) ∧ Hid (Below w.heap.size w wr)) (fun i _ => fs1.length - (intOf i).toNat)
  case atStart => exact ⟨0, by omega, rfl, fun i t hi => absurd hi (by omega), HB1⟩
  case round =>
    obtain ⟨j, hj, rfl, HJ, HB⟩ := hrel
    obtain ⟨wo, hwo⟩ : ∃ wo, wo = wr := ⟨_, rfl⟩
    subst hwo
    have z1 := (HB.out.cell (p := ⟨b1, o1 + 1, none⟩) XL.out).trans X1.out
    by_cases hlt : j < fs1.length
    case neg =>
      have HUN := hid (show fs1.any (unknownD ds1 fs1) = false from any_n (fun i t h => HJ.out i t (by have := (List.getElem?_eq_some_iff.1 h).1; omega) h))
      clear HJ HB1
      go_wp2_with fail
      clear z1
      go_loopw [7] (fun i wr => ∃ (j : Nat), j ≤ fs1.length ∧ i = .int .i64 j ∧ Hid (∀ (i : Nat) t, i < j → fs1[i]? = some t → wrongD ds1 t = false) ∧ Hid (Below w.heap.size w wr)) (fun i _ => fs1.length - (intOf i).toNat)
      case atStart => exact ⟨0, by omega, rfl, fun i t hi => absurd hi (by omega), HB⟩
      case round =>
        obtain ⟨j, hj, rfl, HJ, HB⟩ := hrel
        have z1 := (HB.out.cell (p := ⟨b1, o1 + 1, none⟩) XL.out).trans X1.out
        by_cases hlt : j < fs1.length
        case neg =>
          have HE := hid (checkN_ok HOK.out HUN.out (any_n (fun i t h => HJ.out i t (by have := (List.getElem?_eq_some_iff.1 h).1; omega) h)))
          go_wp2_with fail
          go_ret
          exact ⟨ret_int HE.out.symm, HB.out⟩
        case pos =>
          have y0 := cell_regrown ((HB.out.cell (p := ⟨b1, o1, none⟩) XL.out).trans X0.out)
          have y1 := cell_regrown z1
          obtain ⟨b, o, rfl, hbl, hall⟩ := H4.out (by omega)
          obtain ⟨t, ht⟩ : ∃ t, fs1[j]? = some t := ⟨_, List.getElem?_eq_getElem hlt⟩
          obtain ⟨n3, ⟨tk3, tn3, tks3⟩, ⟨bk3, bu3, bn3, ⟨btk3, btn3, btks3⟩, bns3, bks3⟩⟩ := t
          obtain ⟨atks3, ctks3, abtks3, cbtks3, abns3, cbns3, abks3, cbks3, q0, q1, q2, q3, q4, q5, q6, q7, q8, q9, q10, q11, hrk⟩ := hall j n3 tk3 tn3 tks3 bk3 bu3 bn3 btk3 btn3 btks3 bns3 bks3 ht
          clear hall H4
          have HT := hid ht
          have hbg := Df.bulk_get fs1 j _ ht
          have hbk : Df.bulk (Df.mk n3 (Ty.mk tk3 tn3 tks3) (Tm.mk bk3 bu3 bn3 (Ty.mk btk3 btn3 btks3) bns3 bks3)) = n3.size + Ty.bulk (Ty.mk tk3 tn3 tks3) + Tm.bulk (Tm.mk bk3 bu3 bn3 (Ty.mk btk3 btn3 btks3) bns3 bks3) := rfl
          have hMt : Ty.bulk (Ty.mk tk3 tn3 tks3) ≤ 1048576 := by have := HMF.out; omega
          have hMb : Tm.bulk (Tm.mk bk3 bu3 bn3 (Ty.mk btk3 btn3 btks3) bns3 bks3) ≤ 1048576 := by have := HMF.out; omega
          clear hbg hbk
          have q0r := cell_regrown ((HB.out.cell (p := ⟨b, o + j * 12, none⟩) hbl).trans q0)
          have q1r := cell_regrown ((HB.out.cell (p := ⟨b, o + j * 12 + 1, none⟩) hbl).trans q1)
          have q2r := cell_regrown ((HB.out.cell (p := ⟨b, o + j * 12 + 2, none⟩) hbl).trans q2)
          have q3r := cell_regrown ((HB.out.cell (p := ⟨b, o + j * 12 + 3, none⟩) hbl).trans q3)
          have q4r := cell_regrown ((HB.out.cell (p := ⟨b, o + j * 12 + 4, none⟩) hbl).trans q4)
          have q5r := cell_regrown ((HB.out.cell (p := ⟨b, o + j * 12 + 5, none⟩) hbl).trans q5)
          have q6r := cell_regrown ((HB.out.cell (p := ⟨b, o + j * 12 + 6, none⟩) hbl).trans q6)
          have q7r := cell_regrown ((HB.out.cell (p := ⟨b, o + j * 12 + 7, none⟩) hbl).trans q7)
          have q8r := cell_regrown ((HB.out.cell (p := ⟨b, o + j * 12 + 8, none⟩) hbl).trans q8)
          have q9r := cell_regrown ((HB.out.cell (p := ⟨b, o + j * 12 + 9, none⟩) hbl).trans q9)
          have q10r := cell_regrown ((HB.out.cell (p := ⟨b, o + j * 12 + 10, none⟩) hbl).trans q10)
          have q11r := cell_regrown ((HB.out.cell (p := ⟨b, o + j * 12 + 11, none⟩) hbl).trans q11)
          clear q0 q1 q2 q3 q4 q5 q6 q7 q8 q9 q10 q11
          have hnm : named1 ds1 (Tm.mk bk3 bu3 bn3 (Ty.mk btk3 btn3 btks3) bns3 bks3) := ⟨(prog_def HOK.out ht).2, by have h := any_g HUN.out ht; rw [unknownD_mk, Bool.or_eq_false_iff, Bool.or_eq_false_iff] at h; exact h.2.2⟩
          have hc := fun d os => Calls.regrown_of (countsFit_all ds1 ads1 cds1 hMD (Tm.bulk (Tm.mk bk3 bu3 bn3 (Ty.mk btk3 btn3 btks3) bns3 bks3) + 1) bk3 bu3 bn3 btk3 btn3 btks3 bns3 bks3 abtks3 cbtks3 abns3 cbns3 abks3 cbks3 b (o + j * 12 + 4) (grow (redrawn wr d) os) (by omega) hMb hnm (q4r d os) (q5r d os) (q6r d os) (q7r d os) (q8r d os) (q9r d os) (q10r d os) (q11r d os) ((HFD.out.below HB.out).below (below_regrown wr d os)) (((RdS.subDf_b hrk).below HB.out).below (below_regrown wr d os)))
          have HWD := hid (show wrongD ds1 (Df.mk n3 (Ty.mk tk3 tn3 tks3) (Tm.mk bk3 bu3 bn3 (Ty.mk btk3 btn3 btks3) bns3 bks3)) = Tm.anyN (wrongB ds1) (Tm.mk bk3 bu3 bn3 (Ty.mk btk3 btn3 btks3) bns3 bks3) from rfl)
          clear ht hrk hMb hMt hnm q0r q1r q2r q3r q4r q5r q6r q7r q8r q9r q10r q11r
          cases hq : Tm.anyN (wrongB ds1) (Tm.mk bk3 bu3 bn3 (Ty.mk btk3 btn3 btks3) bns3 bks3)
          case true =>
            rw [hq] at hc HWD
            have HC := hid hc
            have HE := hid (checkN_range HOK.out HUN.out (any_y HT.out HWD.out))
            clear hc hq
            go_wp2_with fail
            clear z1
            refine wp_region_quiet_below (by kernel_rfl) (by kernel_rfl) ?_
            repeat (go_big_quiet_step (exact HC.out _ _))
            refine wpQuiet_nil ?_
            intro w3 hw'
            obtain ⟨⟨dq, osq⟩, hw''⟩ := hw'
            have hb3 : Below wr.heap.size wr w3 := by subst hw''; exact below_regrown wr dq osq
            clear hw''
            clear y0 y1
            go_wp2_with fail
            go_ret
            exact ⟨ret_int HE.out.symm, HB.out.trans (hb3.mono HB.out.size)⟩
          case false =>
            rw [hq] at hc HWD
            have HC := hid hc
            clear hc hq
            go_wp2_with fail
            clear z1
            refine wp_region_quiet_below (by kernel_rfl) (by kernel_rfl) ?_
            repeat (go_big_quiet_step (exact HC.out _ _))
            refine wpQuiet_nil ?_
            intro w3 hw'
            obtain ⟨⟨dq, osq⟩, hw''⟩ := hw'
            have hb3 : Below wr.heap.size wr w3 := by subst hw''; exact below_regrown wr dq osq
            clear hw''
            have HB3 := hid (HB.out.trans (hb3.mono HB.out.size))
            clear y0 y1 hb3
            go_wp2_with fail
            go_roundw
            case rel =>
              refine ⟨j + 1, by omega, by go_num, hid fun i t hi h => ?_, HB3⟩
              rcases Nat.lt_succ_iff_lt_or_eq.1 hi with hi | rfl
              · exact HJ.out i t hi h
              · obtain rfl := Option.some.inj (h.symm.trans HT.out)
                exact HWD.out
            case measure => simp [intOf]; omega
    case pos =>
      obtain ⟨b, o, rfl, hbl, hall⟩ := H4.out (by omega)
      obtain ⟨t, ht⟩ : ∃ t, fs1[j]? = some t := ⟨_, List.getElem?_eq_getElem hlt⟩
      obtain ⟨n3, ⟨tk3, tn3, tks3⟩, ⟨bk3, bu3, bn3, ⟨btk3, btn3, btks3⟩, bns3, bks3⟩⟩ := t
      obtain ⟨atks3, ctks3, abtks3, cbtks3, abns3, cbns3, abks3, cbks3, q0, q1, q2, q3, q4, q5, q6, q7, q8, q9, q10, q11, hrk⟩ := hall j n3 tk3 tn3 tks3 bk3 bu3 bn3 btk3 btn3 btks3 bns3 bks3 ht
      clear hall H4
      have HT := hid ht
      have hbg := Df.bulk_get fs1 j _ ht
      have hbk : Df.bulk (Df.mk n3 (Ty.mk tk3 tn3 tks3) (Tm.mk bk3 bu3 bn3 (Ty.mk btk3 btn3 btks3) bns3 bks3)) = n3.size + Ty.bulk (Ty.mk tk3 tn3 tks3) + Tm.bulk (Tm.mk bk3 bu3 bn3 (Ty.mk btk3 btn3 btks3) bns3 bks3) := rfl
      have hMt : Ty.bulk (Ty.mk tk3 tn3 tks3) ≤ 1048576 := by have := HMF.out; omega
      have hMb : Tm.bulk (Tm.mk bk3 bu3 bn3 (Ty.mk btk3 btn3 btks3) bns3 bks3) ≤ 1048576 := by have := HMF.out; omega
      clear hbg hbk
      have hfr := spec_free bk3 bu3 bn3 btk3 btn3 btks3 bns3 bks3 abtks3 cbtks3 abns3 cbns3 abks3 cbks3 b (o + j * 12 + 4) (.slice none 0 0) wo wo hMb (prog_def HOK.out ht).2 ((HB.out.cell (p := ⟨b, o + j * 12 + 4, none⟩) hbl).trans q4) ((HB.out.cell (p := ⟨b, o + j * 12 + 6, none⟩) hbl).trans q6) ((HB.out.cell (p := ⟨b, o + j * 12 + 10, none⟩) hbl).trans q10) ((HB.out.cell (p := ⟨b, o + j * 12 + 11, none⟩) hbl).trans q11) ((RdS.subDf_b hrk).below HB.out) (Below.refl _ _) (World.ownsRow_nil _ _ _ _)
      have hfl := Tm.free_len (Tm.mk bk3 bu3 bn3 (Ty.mk btk3 btn3 btks3) bns3 bks3) [] []
      have HUD := hid (unknownD_mk ds1 fs1 n3 (Ty.mk tk3 tn3 tks3) (Tm.mk bk3 bu3 bn3 (Ty.mk btk3 btn3 btks3) bns3 bks3))
      simp only [List.length_nil, Nat.zero_add] at hfl
      generalize Tm.free (Tm.mk bk3 bu3 bn3 (Ty.mk btk3 btn3 btks3) bns3 bks3) [] [] = zs at hfr hfl HUD
      have hzl : zs.length ≤ 1048577 := by omega
      have HFR := hid hfr
      have HHT := hid hrk
      have HQ0 := hid q0
      have HQ1 := hid q1
      have HQ2 := hid q2
      have HQ3 := hid q3
      have HQ4 := hid q4
      have HQ5 := hid q5
      have HQ6 := hid q6
      have HQ7 := hid q7
      have HQ8 := hid q8
      have HQ9 := hid q9
      have HQ10 := hid q10
      have HQ11 := hid q11
      have HMB := hid hMb
      have HMT := hid hMt
      clear hfr hfl ht hrk hMb hMt q0 q1 q2 q3 q4 q5 q6 q7 q8 q9 q10 q11
      go_wp2_with fail
      refine HFR.out.mono ?_
      rintro e w2 ⟨af, cf, rfl, hof, hb2⟩
      have HB2 := hid (HB.out.trans (hb2.mono HB.out.size))
      obtain ⟨_, _, e, h2z, h3z, h4z⟩ := hof.rd.eSr
      simp only [Value.slice.injEq, true_and] at e
      obtain ⟨rfl, rfl⟩ := e
      have H4Z := hid h4z
      clear hof hb2 h2z h3z h4z z1
      go_wp2_with fail
      go_loopw [6] (fun i wr => ∃ (k : Nat), k ≤ zs.length ∧ i = .int .i64 k ∧ Hid (∀ (i : Nat) t, i < k → zs[i]? = some t → noDef fs1 t = false) ∧ Hid (Below w2.heap.size w2 wr)) (fun i _ => zs.length - (intOf i).toNat)
      case atStart => exact ⟨0, by omega, rfl, fun i t hi => absurd hi (by omega), Below.refl _ _⟩
      case round =>
        obtain ⟨k, hk, rfl, HJK, HBK⟩ := hrel
        have hbw := HB2.out.trans (HBK.out.mono HB2.out.size)
        have HBW := hid hbw
        clear hbw
        have y1 := cell_regrown ((HBW.out.cell (p := ⟨b1, o1 + 1, none⟩) XL.out).trans X1.out)
        by_cases hkl : k < zs.length
        case pos =>
          obtain ⟨bz, oz, rfl, hbz, hallz⟩ := H4Z.out (by omega)
          obtain ⟨nm, hnm⟩ : ∃ t, zs[k]? = some t := ⟨_, List.getElem?_eq_getElem hkl⟩
          have ez := cell_regrown ((HBK.out.cell (p := ⟨bz, oz + k, none⟩) hbz).trans (hallz k nm hnm).1)
          have hc := fun d os => Calls.regrown_of (calls_below (spec_l03Named fs1 (some ⟨b, o, none⟩) cfs1 nm (grow (redrawn wr d) os) ((HFL.out.below HBW.out).below (below_regrown wr d os))))
          have HZ := hid hnm
          have HND := hid (show noDef fs1 nm = decide (namedF fs1 nm < 0) from rfl)
          generalize namedF fs1 nm = r at hc HND
          have HC := hid hc
          clear hallz H4Z hnm hc
          by_cases hneg : r < 0
          case pos =>
            have gr : decide (r < 0) = true := decide_eq_true hneg
            have HE := hid (checkN_name HOK.out (any_y HT.out (HUD.out.trans (by rw [any_y HZ.out (HND.out.trans gr)]; simp))))
            clear hneg
            go_wp2_with fail
            refine wp_region_quiet_below (by kernel_rfl) (by kernel_rfl) ?_
            repeat (go_big_quiet_step (exact HC.out _ _))
            refine wpQuiet_nil ?_
            intro w3 hw'
            obtain ⟨⟨dq, osq⟩, hw''⟩ := hw'
            have hb3 : Below wr.heap.size wr w3 := by subst hw''; exact below_regrown wr dq osq
            clear hw''
            clear y1 ez
            go_wp2_with fail
            go_ret
            exact ⟨ret_int HE.out.symm, HBW.out.trans (hb3.mono HBW.out.size)⟩
          case neg =>
            have gr : decide (r < 0) = false := decide_eq_false hneg
            have HNN := hid (HND.out.trans gr)
            clear hneg
            go_wp2_with fail
            refine wp_region_quiet_below (by kernel_rfl) (by kernel_rfl) ?_
            repeat (go_big_quiet_step (exact HC.out _ _))
            refine wpQuiet_nil ?_
            intro w3 hw'
            obtain ⟨⟨dq, osq⟩, hw''⟩ := hw'
            have hb3 : Below wr.heap.size wr w3 := by subst hw''; exact below_regrown wr dq osq
            clear hw''
            have HB3 := hid (HBK.out.trans (hb3.mono HBK.out.size))
            clear y1 ez hb3
            go_wp2_with fail
            go_roundw
            case rel =>
              refine ⟨k + 1, by omega, by go_num, hid fun i t hi h => ?_, HB3⟩
              rcases Nat.lt_succ_iff_lt_or_eq.1 hi with hi | rfl
              · exact HJK.out i t hi h
              · obtain rfl := Option.some.inj (h.symm.trans HZ.out)
                exact HNN.out
            case measure => simp [intOf]; omega
        case neg =>
          have HFA := hid (show zs.any (noDef fs1) = false from any_n (fun i t h => HJK.out i t (by have := (List.getElem?_eq_some_iff.1 h).1; omega) h))
          have y0 := cell_regrown ((HBW.out.cell (p := ⟨b1, o1, none⟩) XL.out).trans X0.out)
          have q0r := cell_regrown ((HBW.out.cell (p := ⟨b, o + j * 12, none⟩) hbl).trans HQ0.out)
          have q1r := cell_regrown ((HBW.out.cell (p := ⟨b, o + j * 12 + 1, none⟩) hbl).trans HQ1.out)
          have q2r := cell_regrown ((HBW.out.cell (p := ⟨b, o + j * 12 + 2, none⟩) hbl).trans HQ2.out)
          have q3r := cell_regrown ((HBW.out.cell (p := ⟨b, o + j * 12 + 3, none⟩) hbl).trans HQ3.out)
          have q4r := cell_regrown ((HBW.out.cell (p := ⟨b, o + j * 12 + 4, none⟩) hbl).trans HQ4.out)
          have q5r := cell_regrown ((HBW.out.cell (p := ⟨b, o + j * 12 + 5, none⟩) hbl).trans HQ5.out)
          have q6r := cell_regrown ((HBW.out.cell (p := ⟨b, o + j * 12 + 6, none⟩) hbl).trans HQ6.out)
          have q7r := cell_regrown ((HBW.out.cell (p := ⟨b, o + j * 12 + 7, none⟩) hbl).trans HQ7.out)
          have q8r := cell_regrown ((HBW.out.cell (p := ⟨b, o + j * 12 + 8, none⟩) hbl).trans HQ8.out)
          have q9r := cell_regrown ((HBW.out.cell (p := ⟨b, o + j * 12 + 9, none⟩) hbl).trans HQ9.out)
          have q10r := cell_regrown ((HBW.out.cell (p := ⟨b, o + j * 12 + 10, none⟩) hbl).trans HQ10.out)
          have q11r := cell_regrown ((HBW.out.cell (p := ⟨b, o + j * 12 + 11, none⟩) hbl).trans HQ11.out)
          have hkn := fun d os => Calls.regrown_of (spec_Known ds1 ads1 cds1 tk3 tn3 tks3 atks3 ctks3 (grow (redrawn wr d) os) ((HFD.out.below HBW.out).below (below_regrown wr d os)) (((RdS.subDf_t HHT.out).below HBW.out).below (below_regrown wr d os)))
          have hnf := fun d os => Calls.regrown_of (namesFit_all ds1 ads1 cds1 hMD (Tm.bulk (Tm.mk bk3 bu3 bn3 (Ty.mk btk3 btn3 btks3) bns3 bks3) + 1) bk3 bu3 bn3 btk3 btn3 btks3 bns3 bks3 abtks3 cbtks3 abns3 cbns3 abks3 cbks3 b (o + j * 12 + 4) (grow (redrawn wr d) os) (by omega) HMB.out (q4r d os) (q5r d os) (q6r d os) (q7r d os) (q8r d os) (q9r d os) (q10r d os) (q11r d os) ((HFD.out.below HBW.out).below (below_regrown wr d os)) (((RdS.subDf_b HHT.out).below HBW.out).below (below_regrown wr d os)))
          clear q0r q4r q5r q6r q7r q8r q9r q10r q11r
          cases hq : Ty.known ds1 (Ty.mk tk3 tn3 tks3)
          case false =>
            rw [hq] at hkn
            have HC := hid hkn
            have HE := hid (checkN_name HOK.out (any_y HT.out (HUD.out.trans (by rw [hq]; rfl))))
            clear hkn hnf hq
            go_wp2_with fail
            refine wp_region_quiet_below (by kernel_rfl) (by kernel_rfl) ?_
            repeat (go_big_quiet_step (exact HC.out _ _))
            refine wpQuiet_nil ?_
            intro w3 hw'
            obtain ⟨⟨dq, osq⟩, hw''⟩ := hw'
            have hb3 : Below wr.heap.size wr w3 := by subst hw''; exact below_regrown wr dq osq
            clear hw''
            clear y0 y1 q1r q2r q3r
            go_wp2_with fail
            go_ret
            exact ⟨ret_int HE.out.symm, HBW.out.trans (hb3.mono HBW.out.size)⟩
          case true =>
            rw [hq] at hkn
            have HC := hid hkn
            cases hq2 : Tm.anyN (badName ds1) (Tm.mk bk3 bu3 bn3 (Ty.mk btk3 btn3 btks3) bns3 bks3)
            case true =>
              rw [hq2] at hnf
              have HC2 := hid hnf
              have HE := hid (checkN_name HOK.out (any_y HT.out (HUD.out.trans (by rw [hq, hq2, HFA.out]; rfl))))
              clear hkn hnf hq hq2
              go_wp2_with fail
              refine wp_region_quiet_below (by kernel_rfl) (by kernel_rfl) ?_
              repeat (go_big_quiet_step (first | (with_reducible exact HC.out _ _) | (with_reducible exact HC2.out _ _)))
              refine wpQuiet_nil ?_
              intro w3 hw'
              obtain ⟨⟨dq, osq⟩, hw''⟩ := hw'
              have hb3 : Below wr.heap.size wr w3 := by subst hw''; exact below_regrown wr dq osq
              clear hw''
              clear y0 y1 q1r q2r q3r
              go_wp2_with fail
              go_ret
              exact ⟨ret_int HE.out.symm, HBW.out.trans (hb3.mono HBW.out.size)⟩
            case false =>
              rw [hq2] at hnf
              have HC2 := hid hnf
              have HNO := hid (show unknownD ds1 fs1 (Df.mk n3 (Ty.mk tk3 tn3 tks3) (Tm.mk bk3 bu3 bn3 (Ty.mk btk3 btn3 btks3) bns3 bks3)) = false from HUD.out.trans (by rw [hq, hq2, HFA.out]; rfl))
              clear hkn hnf hq hq2
              go_wp2_with fail
              refine wp_region_quiet_below (by kernel_rfl) (by kernel_rfl) ?_
              repeat (go_big_quiet_step (first | (with_reducible exact HC.out _ _) | (with_reducible exact HC2.out _ _)))
              refine wpQuiet_nil ?_
              intro w3 hw'
              obtain ⟨⟨dq, osq⟩, hw''⟩ := hw'
              have hb3 : Below wr.heap.size wr w3 := by subst hw''; exact below_regrown wr dq osq
              clear hw''
              have HB3 := hid (HBW.out.trans (hb3.mono HBW.out.size))
              clear y0 y1 q1r q2r q3r hb3
              go_wp2_with fail
              go_roundw
              case rel =>
                refine ⟨j + 1, by omega, by go_num, hid fun i t hi h => ?_, HB3⟩
                rcases Nat.lt_succ_iff_lt_or_eq.1 hi with hi | rfl
                · exact HJ.out i t hi h
                · obtain rfl := Option.some.inj (h.symm.trans HT.out)
                  exact HNO.out
              case measure => simp [intOf]; omega
theorem spec_CheckNames (ds1 : List Dat) (fs1 : List Df) (ads1 : Option Addr) (cds1 : Nat) (afs1 : Option Addr) (cfs1 : Nat) (w : World) (hM : Pg.bulk (Pg.mk ds1 fs1) ≤ 1048576) (hr : RdS w (Pg.d (Pg.mk ds1 fs1)) [.slice ads1 ds1.length cds1, .slice afs1 fs1.length cfs1]) :
    Calls Tryz.prog 15 #[.agg #[.slice ads1 ds1.length cds1, .slice afs1 fs1.length cfs1]] w fun e w' => e = .returned (.int .i64 (checkN (.mk ds1 fs1))) ∧ Below w.heap.size w w' := by
  have hB := (Below.refl w.heap.size w).alloc (Nat.le_refl _) (.cells #[.slice ads1 ds1.length cds1, .slice afs1 fs1.length cfs1] 32)
  have hx := (Boxes.nil w).alloc #[.slice ads1 ds1.length cds1, .slice afs1 fs1.length cfs1] 32 (0, 0)
  have HC := hid (spec_l03Names ds1 fs1 ads1 cds1 afs1 cfs1 w.heap.size 0 _ hM (hx.at 0 0 rfl rfl) (hx.at 0 1 rfl rfl) (hr.below hB))
  have HB := hid hB
  generalize checkN (.mk ds1 fs1) = r at HC ⊢
  clear hx hr hB hM
  go_enter Tryz.func15, Tryz.ntmps15
  go_wp2_with fail
  refine HC.out.mono ?_
  rintro e w1 ⟨rfl, hb⟩
  have HB1 := hid (HB.out.trans (hb.mono HB.out.size))
  clear hb
  go_wp2_with fail
  go_ret
  exact ⟨rfl, HB1.out⟩
end Go.Proofs.YtgpefnlpbjnjbaaGreat

namespace Go.Proofs.YtgpefnlpbjnjbaaGreat
open Go.ChangeShapes Go.WideShapes Go.ChangeAt Go.RowKit Go.BigFrame
open Go.Sort (grow)
set_option linter.unusedVariables false

theorem info64u : (Tryz.prog.info? 2).map (fun i => (i.zero, i.size, i.bytes)) = some (some (.int .i64 0), 1, 8) := by kernel_rfl
/-- A number appended to a list of the call's own. -/
theorem wpList_append_int {w : World} {ops : Array Oper} {rest : List Oper} {o : Oper} {a : Act} {Q : Exit → Act → World → Prop} (hgd : o.guard = none) (s x : Operand)
    (ho : o.op = .call { callee := .builtin .append, args := #[s, x], argTypes := #[27, 27] })
    (base : Nat) (v : Value) (zs : List Int) (n : Int) (ad : Addr) (hs : a.eval s = v) (hx : a.eval x = .slice (some ad) 1 1) (hown : w.ownsRow base 2 1 v zs.length (zs.map (Value.int .i64))) (hc : ∀ j u, [Value.int .i64 n][j]? = some u → w.cell? (ad.add j) = some u)
    (h63 : zs.length + 1 ≤ 4194304) (hbase : base ≤ w.heap.size)
    (hK : ∀ v' w', w'.ownsRow base 2 1 v' (zs ++ [n]).length ((zs ++ [n]).map (Value.int .i64)) → w.grownBy w' v.ownBlock → wpList Tryz.prog ops Q rest (a.put o.dst v') w') : wpList Tryz.prog ops Q (o :: rest) a w := by
  obtain ⟨i0, hi, hz0, hz1, hz2⟩ := info_parts info64u
  refine wpList_append_own w hgd s x _ ho base 2 i0 _ 1 8 Tryz.underlying27 hi hz0 hz1 hz2 rfl (by decide) v _ _ hs hown ad 1 1 [.int .i64 n] hx rfl hc (fun u hu => by simp at hu; subst hu; rfl) (by simp only [maxLen]; omega) (by omega) hbase (fun v' w' h5 h6 _ => hK v' w' (by simpa using h5) h6)
def NewI (w : World) (zs : List Int) (e : Ending) (w' : World) : Prop := ∃ v, e = .returned v ∧ w'.ownsRow w.heap.size 2 1 v zs.length (zs.map (Value.int .i64)) ∧ Below w.heap.size w w'
theorem own_nextI {B : Nat} {w0 w w' : World} {v : Value} {xs : List Int} (hb : Below B w0 w) (hB : B ≤ w.heap.size) (ho : w.ownsRow B 2 1 v xs.length (xs.map (Value.int .i64))) (hg : w.grownBy w' v.ownBlock) : Below B w0 w' := hb.grown hg hB fun k hk => (ho.lt k hk).1
theorem ownsRow_monoI {w : World} {B B' s n : Nat} {e : TypeId} {v : Value} {xs : List Value} (h : w.ownsRow B e s v n xs) (hB : B' ≤ B) : w.ownsRow B' e s v n xs := by
  refine ⟨h.1, ?_⟩
  rcases h.2 with hn | ⟨g, cap, cur, h1, h2, rest⟩
  · exact .inl hn
  · exact .inr ⟨g, cap, cur, h1, Nat.le_trans hB h2, rest⟩
theorem drop_getI {α : Type} {l : List α} {j : Nat} {t : α} (h : l[j]? = some t) : l.drop j = t :: l.drop (j + 1) := by
  obtain ⟨hlt, rfl⟩ := List.getElem?_eq_some_iff.1 h
  exact List.drop_eq_getElem_cons hlt
set_option maxRecDepth 100000 in
set_option maxHeartbeats 4000000 in
theorem spec_Put (l : List Int) (n : Int) (a : Option Addr) (c : Nat) (w : World) (hl : l.length ≤ 1048577) (hr : RdL w (In.ds l) (.slice a l.length c)) :
    Calls Tryz.prog 39 #[.slice a l.length c, .int .i64 n] w (NewI w (putI n l)) := by
  obtain ⟨_, _, e, h2, h3, h4⟩ := hr.eIn
  simp only [Value.slice.injEq, true_and] at e
  obtain ⟨rfl, rfl⟩ := e
  have H4 := hid h4
  have hb1 : Below w.heap.size w (w.alloc (.cells #[] 2)) := (Below.refl _ _).alloc (Nat.le_refl _) _
  have HB1 := hid hb1
  have HO1 := hid (show (w.alloc (.cells #[] 2)).ownsRow w.heap.size 2 1 (.slice (some ⟨w.heap.size, 0, none⟩) 0 0) ([] : List Int).length (([] : List Int).map (Value.int .i64)) from World.ownsRow_made w #[] 0 (Nat.le_refl _) (by simp [maxLen]) rfl)
  clear hr h2 h3 h4 hb1
  go_enter Tryz.func39, Tryz.ntmps39
  go_wp2_with fail
  go_loopw [5, 6, 7] (fun o d i wr => ∃ (j : Nat) (dn : Bool) (zs : List Int) (v0 : Value), j ≤ l.length ∧ i = .int .i64 j ∧ d = .bool dn ∧ v0 = o ∧ zs.length ≤ j + 1 ∧ Hid (dn = false → zs.length = j) ∧ Hid (wr.ownsRow w.heap.size 2 1 v0 zs.length (zs.map (Value.int .i64))) ∧ Hid (Below w.heap.size w wr) ∧ Hid (putI n l = zs ++ (if dn = true then l.drop j else putI n (l.drop j)))) (fun _ _ i _ => l.length - (intOf i).toNat)
  case atStart => exact ⟨0, false, [], _, by omega, rfl, rfl, rfl, by simp, hid (fun _ => rfl), HO1, HB1, hid (by simp)⟩
  case round =>
    obtain ⟨j, dn, zs, v0, hj, rfl, rfl, rfl, hzl, HZL, HO, HB, HE⟩ := hrel
    by_cases hlt : j < l.length
    case neg =>
      have hd : l.drop j = [] := List.drop_eq_nil_of_le (by omega)
      cases dn
      case true =>
        have HP := hid (show NewI w (putI n l) (.returned v0) wr from ⟨v0, rfl, by have h : putI n l = zs := (by have h := HE.out; rw [hd, if_pos rfl, List.append_nil] at h; exact h); rw [h]; exact HO.out, HB.out⟩)
        clear hd
        go_wp2_with fail
        go_ret
        exact HP.out
      case false =>
        have HQ := hid (show putI n l = zs ++ [n] by have h := HE.out; rw [hd] at h; simpa [putI] using h)
        clear hd
        go_wp2_with (at_builtin; refine wpList_append_int rfl _ _ rfl w.heap.size _ zs n ⟨wr.heap.size, 0, none⟩ rfl rfl (HO.out.alloc _) (one_new _ _ _) ?c1 ?c2 ?_)
        case c1 => omega
        case c2 => have := HB.out.size; simp; omega
        intro v2 w2 ho2 hg2
        have HP := hid (show NewI w (putI n l) (.returned v2) w2 from ⟨v2, rfl, by rw [HQ.out]; simpa using ho2, own_nextI (HB.out.alloc HB.out.size _) (by have := HB.out.size; simp; omega) (HO.out.alloc _) hg2⟩)
        clear ho2 hg2
        go_wp2_with fail
        go_ret
        exact HP.out
    case pos =>
      obtain ⟨b, o, rfl, hbl, hall⟩ := H4.out (by omega)
      obtain ⟨x, hx⟩ : ∃ x, l[j]? = some x := ⟨_, List.getElem?_eq_getElem hlt⟩
      have d0 := (HB.out.cell (p := ⟨b, o + j, none⟩) hbl).trans (hall j x hx).1
      have HDR := hid (drop_getI hx)
      have HD0 := hid d0
      have HBL := hid hbl
      have HXX := hid (hall j x hx).1
      clear hall H4 hx
      cases dn
      case true =>
        have HQ := hid (show putI n l = (zs ++ [x]) ++ (if true = true then l.drop (j + 1) else putI n (l.drop (j + 1))) by have h := HE.out; rw [HDR.out] at h; simpa using h)
        go_wp2_with (at_builtin; refine wpList_append_int rfl _ _ rfl w.heap.size _ zs x ⟨wr.heap.size, 0, none⟩ rfl rfl (HO.out.alloc _) (one_new _ _ _) ?e1 ?e2 ?_)
        case e1 => omega
        case e2 => have := HB.out.size; simp; omega
        intro v2 w2 ho2 hg2
        have HO2 := hid (show w2.ownsRow w.heap.size 2 1 v2 (zs ++ [x]).length ((zs ++ [x]).map (Value.int .i64)) by simpa using ho2)
        have HB2 := hid (own_nextI (HB.out.alloc HB.out.size _) (by have := HB.out.size; simp; omega) (HO.out.alloc _) hg2)
        clear ho2 hg2 d0
        go_wp2_with fail
        go_roundw
        case rel => exact ⟨j + 1, true, zs ++ [x], v2, by omega, by go_num, rfl, rfl, by simp; omega, hid (fun h => by simp at h), HO2, HB2, HQ⟩
        case measure => simp [intOf]; omega
      case false =>
        have HZ0 := hid (show zs.length = j from HZL.out rfl)
        have HP0 := hid (show putI n (l.drop j) = if n ≤ x then (if n < x then n :: x :: l.drop (j + 1) else x :: l.drop (j + 1)) else x :: putI n (l.drop (j + 1)) by rw [HDR.out, putI])
        by_cases hge : n ≤ x
        case neg =>
          have gg : decide (n ≤ x) = false := decide_eq_false hge
          have HQ := hid (show putI n l = (zs ++ [x]) ++ (if false = true then l.drop (j + 1) else putI n (l.drop (j + 1))) by have h := HE.out; rw [if_neg (by simp), HP0.out, if_neg hge] at h; simpa using h)
          clear hge
          go_wp2_with (at_builtin; refine wpList_append_int rfl _ _ rfl w.heap.size _ zs x ⟨wr.heap.size, 0, none⟩ rfl rfl (HO.out.alloc _) (one_new _ _ _) ?f1 ?f2 ?_)
          case f1 => omega
          case f2 => have := HB.out.size; simp; omega
          intro v2 w2 ho2 hg2
          have HO2 := hid (show w2.ownsRow w.heap.size 2 1 v2 (zs ++ [x]).length ((zs ++ [x]).map (Value.int .i64)) by simpa using ho2)
          have HB2 := hid (own_nextI (HB.out.alloc HB.out.size _) (by have := HB.out.size; simp; omega) (HO.out.alloc _) hg2)
          clear ho2 hg2 d0
          go_wp2_with fail
          go_roundw
          case rel => exact ⟨j + 1, false, zs ++ [x], v2, by omega, by go_num, rfl, rfl, by simp; omega, hid (fun _ => by have := HZ0.out; simp; omega), HO2, HB2, HQ⟩
          case measure => simp [intOf]; omega
        case pos =>
        have gg : decide (n ≤ x) = true := decide_eq_true hge
        by_cases hgt : n < x
        case neg =>
          have g2 : decide (n < x) = false := decide_eq_false hgt
          have HQ := hid (show putI n l = (zs ++ [x]) ++ (if true = true then l.drop (j + 1) else putI n (l.drop (j + 1))) by have h := HE.out; rw [if_neg (by simp), HP0.out, if_pos hge, if_neg hgt] at h; simpa using h)
          clear hge hgt
          go_wp2_with (at_builtin; refine wpList_append_int rfl _ _ rfl w.heap.size _ zs x ⟨wr.heap.size, 0, none⟩ rfl rfl (HO.out.alloc _) (one_new _ _ _) ?h1 ?h2 ?_)
          case h1 => omega
          case h2 => have := HB.out.size; simp; omega
          intro v2 w2 ho2 hg2
          have HO2 := hid (show w2.ownsRow w.heap.size 2 1 v2 (zs ++ [x]).length ((zs ++ [x]).map (Value.int .i64)) by simpa using ho2)
          have HB2 := hid (own_nextI (HB.out.alloc HB.out.size _) (by have := HB.out.size; simp; omega) (HO.out.alloc _) hg2)
          clear ho2 hg2 d0
          go_wp2_with fail
          go_roundw
          case rel => exact ⟨j + 1, true, zs ++ [x], v2, by omega, by go_num, rfl, rfl, by simp; omega, hid (fun h => by simp at h), HO2, HB2, HQ⟩
          case measure => simp [intOf]; omega
        case pos =>
          have g2 : decide (n < x) = true := decide_eq_true hgt
          have hzj := HE.out
          rw [if_neg (by simp), HP0.out, if_pos hge, if_pos hgt] at hzj
          have HQ := hid (show putI n l = ((zs ++ [n]) ++ [x]) ++ (if true = true then l.drop (j + 1) else putI n (l.drop (j + 1))) by simpa using hzj)
          have hzz : zs.length ≤ j := Nat.le_of_eq HZ0.out
          clear hge hgt hzj
          go_wp2_with (at_builtin; refine wpList_append_int rfl _ _ rfl w.heap.size _ zs n ⟨wr.heap.size, 0, none⟩ rfl rfl (HO.out.alloc _) (one_new _ _ _) ?k1 ?k2 ?_)
          case k1 => omega
          case k2 => have := HB.out.size; simp; omega
          intro v1 w1 ho1 hg1
          have HO1' := hid (show w1.ownsRow w.heap.size 2 1 v1 (zs ++ [n]).length ((zs ++ [n]).map (Value.int .i64)) by simpa using ho1)
          have HB1' := hid (own_nextI (HB.out.alloc HB.out.size _) (by have := HB.out.size; simp; omega) (HO.out.alloc _) hg1)
          have d1 := (HB1'.out.cell (p := ⟨b, o + j, none⟩) HBL.out).trans HXX.out
          clear ho1 hg1 d0
          go_wp2_with (at_builtin; refine wpList_append_int rfl _ _ rfl w.heap.size _ (zs ++ [n]) x ⟨w1.heap.size, 0, none⟩ rfl rfl (HO1'.out.alloc _) (one_new _ _ _) ?m1 ?m2 ?_)
          case m1 => simp; omega
          case m2 => have := HB1'.out.size; simp; omega
          intro v2 w2 ho2 hg2
          have HO2 := hid (show w2.ownsRow w.heap.size 2 1 v2 ((zs ++ [n]) ++ [x]).length (((zs ++ [n]) ++ [x]).map (Value.int .i64)) by simpa using ho2)
          have HB2 := hid (own_nextI (HB1'.out.alloc HB1'.out.size _) (by have := HB1'.out.size; simp; omega) (HO1'.out.alloc _) hg2)
          clear ho2 hg2 d1
          go_wp2_with fail
          go_roundw
          case rel => exact ⟨j + 1, true, (zs ++ [n]) ++ [x], v2, by omega, by go_num, rfl, rfl, by simp; omega, hid (fun h => by simp at h), HO2, HB2, HQ⟩
          case measure => simp [intOf]; omega
end Go.Proofs.YtgpefnlpbjnjbaaGreat

namespace Go.Proofs.YtgpefnlpbjnjbaaGreat
open Go.ChangeShapes Go.WideShapes Go.ChangeAt Go.RowKit Go.BigFrame
open Go.Sort (grow)
set_option linter.unusedVariables false

theorem heap_liftu {w w' : World} {b : Nat} {o : Obj} (h : w.heap[b]? = some o) (hb : Below w.heap.size w w') : w'.heap[b]? = some o := (hb.block _ (Array.getElem?_eq_some_iff.1 h).1).trans h
theorem ownsRow_ints {B : Nat} {w' : World} {v : Value} {xs : List Int} (h : w'.ownsRow B 2 1 v xs.length (xs.map (Value.int .i64))) (hL : ∀ x ∈ xs, -9223372036854775808 ≤ x ∧ x ≤ 9223372036854775807) : OwnL w' B (In.ds xs) v := by
  obtain ⟨F, h1, h2⟩ := Rd.of_own h (by rw [In.ds_length]) (In.rdall xs hL) (Owned.nil w' B) (fun _ _ hx => by simp at hx)
  exact ⟨F, h1, h2⟩
theorem GivesIns_new {w w0 w' : World} {xs : List Int} {e : Ending} (hb : Below w.heap.size w w0) (h : NewI w0 xs e w') (hL : ∀ x ∈ xs, -9223372036854775808 ≤ x ∧ x ≤ 9223372036854775807) : GivesIns xs w e w' := by
  obtain ⟨v, rfl, ho, hb2⟩ := h
  obtain ⟨a, c, hv, -⟩ := (own_RdL ho hL).eIn
  subst hv
  exact ⟨a, c, rfl, ownsRow_ints (ownsRow_monoI ho hb.size) hL, hb.trans (hb2.mono hb.size)⟩
theorem GivesIns_none {w w' : World} (a : Option Addr) (hb : Below w.heap.size w w') : GivesIns [] w (.returned (.slice a 0 0)) w' := ⟨a, 0, rfl, ⟨[], Rd.nil_mk (by omega), Owned.nil _ _⟩, hb⟩
set_option maxRecDepth 100000 in
set_option maxHeartbeats 4000000 in
theorem spec_Used (ds1 : List Dat) (fs1 : List Df) (ads1 : Option Addr) (cds1 : Nat) (afs1 : Option Addr) (cfs1 : Nat) (kk : Nat) (n3 : ByteArray) (tk3 : Int) (tn3 : ByteArray) (tks3 : List Ty) (bk3 bu3 : Int) (bn3 : ByteArray) (btk3 : Int) (btn3 : ByteArray) (btks3 : List Ty) (bns3 : List ByteArray) (bks3 : List Tm) (b1 o1 : Nat) (w : World) (hM : Pg.bulk (Pg.mk ds1 fs1) ≤ 1048576) (hj : fs1[kk]? = some (Df.mk n3 (Ty.mk tk3 tn3 tks3) (Tm.mk bk3 bu3 bn3 (Ty.mk btk3 btn3 btks3) bns3 bks3))) (hck : checkN (.mk ds1 fs1) = 0) (x1 : w.cell? ⟨b1, o1 + 1, none⟩ = some (.slice afs1 fs1.length cfs1)) (hr : RdS w (Pg.d (Pg.mk ds1 fs1)) [.slice ads1 ds1.length cds1, .slice afs1 fs1.length cfs1]) :
    Calls Tryz.prog 23 #[.pointer (some ⟨b1, o1, none⟩), .int .i64 kk] w (NewI w (usedOf fs1 (Tm.mk bk3 bu3 bn3 (Ty.mk btk3 btn3 btks3) bns3 bks3))) := by
  obtain ⟨_, _, e, h2, h3, h4⟩ := hr.fPg.2.eDf
  simp only [Value.slice.injEq, true_and] at e
  obtain ⟨rfl, rfl⟩ := e
  have hkl : kk < fs1.length := (List.getElem?_eq_some_iff.1 hj).1
  obtain ⟨b, o, rfl, hbl, hall⟩ := h4 (by omega)
  obtain ⟨atks3, ctks3, abtks3, cbtks3, abns3, cbns3, abks3, cbks3, q0, q1, q2, q3, q4, q5, q6, q7, q8, q9, q10, q11, hrk⟩ := hall kk n3 tk3 tn3 tks3 bk3 bu3 bn3 btk3 btn3 btks3 bns3 bks3 hj
  have hbg := Df.bulk_get fs1 kk _ hj
  have hbk : Df.bulk (Df.mk n3 (Ty.mk tk3 tn3 tks3) (Tm.mk bk3 bu3 bn3 (Ty.mk btk3 btn3 btks3) bns3 bks3)) = n3.size + Ty.bulk (Ty.mk tk3 tn3 tks3) + Tm.bulk (Tm.mk bk3 bu3 bn3 (Ty.mk btk3 btn3 btks3) bns3 bks3) := rfl
  have hbp : Pg.bulk (Pg.mk ds1 fs1) = Dat.bulks ds1 + Df.bulks fs1 := rfl
  have hlf := Df.bulks_length fs1
  have hMb : Tm.bulk (Tm.mk bk3 bu3 bn3 (Ty.mk btk3 btn3 btks3) bns3 bks3) ≤ 1048576 := by omega
  have hlf2 : fs1.length ≤ 8 := prog_len (check_ok hck).1
  have hgb := (prog_def (check_ok hck).1 hj).2
  have hul := used_len hck hj
  have hbd : ∀ x ∈ putAll [] ((Tm.free (Tm.mk bk3 bu3 bn3 (Ty.mk btk3 btn3 btks3) bns3 bks3) [] []).map (namedF fs1)), -1 ≤ x ∧ x < fs1.length := usedOf_bd fs1 (Tm.mk bk3 bu3 bn3 (Ty.mk btk3 btn3 btks3) bns3 bks3)
  have hb1 : Below w.heap.size w (w.alloc (.cells #[] 2)) := (Below.refl _ _).alloc (Nat.le_refl _) _
  have HB1 := hid hb1
  have HO1 := hid (show (w.alloc (.cells #[] 2)).ownsRow w.heap.size 2 1 (.slice (some ⟨w.heap.size, 0, none⟩) 0 0) ([] : List Int).length (([] : List Int).map (Value.int .i64)) from World.ownsRow_made w #[] 0 (Nat.le_refl _) (by simp [maxLen]) rfl)
  have hfr := spec_free bk3 bu3 bn3 btk3 btn3 btks3 bns3 bks3 abtks3 cbtks3 abns3 cbns3 abks3 cbks3 b (o + kk * 12 + 4) (.slice none 0 0) _ _ hMb hgb ((hb1.cell (p := ⟨b, o + kk * 12 + 4, none⟩) hbl).trans q4) ((hb1.cell (p := ⟨b, o + kk * 12 + 6, none⟩) hbl).trans q6) ((hb1.cell (p := ⟨b, o + kk * 12 + 10, none⟩) hbl).trans q10) ((hb1.cell (p := ⟨b, o + kk * 12 + 11, none⟩) hbl).trans q11) ((RdS.subDf_b hrk).below hb1) (Below.refl _ _) (World.ownsRow_nil _ _ _ _)
  have hU : usedOf fs1 (Tm.mk bk3 bu3 bn3 (Ty.mk btk3 btn3 btks3) bns3 bks3) = putAll [] ((Tm.free (Tm.mk bk3 bu3 bn3 (Ty.mk btk3 btn3 btks3) bns3 bks3) [] []).map (namedF fs1)) := rfl
  rw [hU]
  clear hU
  generalize Tm.free (Tm.mk bk3 bu3 bn3 (Ty.mk btk3 btn3 btks3) bns3 bks3) [] [] = zs at hfr hul hbd ⊢
  have HBD := hid hbd
  have HFR := hid hfr
  have X1 := hid x1
  have XL := hid (World.block_lt_of_cell? _ _ x1)
  have y1 := (hb1.cell (p := ⟨b1, o1 + 1, none⟩) XL.out).trans x1
  have HFL := hid hr.fPg.2
  clear hfr hbd hgb hbg hbk hbp hMb hrk hall h2 h3 h4 q0 q1 q2 q3 q4 q5 q6 q7 q8 q9 q10 q11 hr hck hM hj x1 hb1 hlf
  go_enter Tryz.func23, Tryz.ntmps23
  go_wp2_with fail
  refine HFR.out.mono ?_
  rintro e w2 ⟨af, cf, rfl, hof, hb2⟩
  have HB2 := hid (HB1.out.trans (hb2.mono HB1.out.size))
  have HO2 := hid (ownsRow.below HO1.out hb2)
  obtain ⟨_, _, e, h2z, h3z, h4z⟩ := hof.rd.eSr
  simp only [Value.slice.injEq, true_and] at e
  obtain ⟨rfl, rfl⟩ := e
  have H4Z := hid h4z
  clear hof hb2 h2z h3z h4z y1
  go_wp2_with fail
  go_loopw [5, 7] (fun u i wr => ∃ (j : Nat) (v0 : Value), j ≤ zs.length ∧ i = .int .i64 j ∧ v0 = u ∧ Hid (wr.ownsRow w.heap.size 2 1 v0 (putAll [] ((zs.take j).map (namedF fs1))).length ((putAll [] ((zs.take j).map (namedF fs1))).map (Value.int .i64))) ∧ Hid (Below w2.heap.size w2 wr)) (fun _ i _ => zs.length - (intOf i).toNat)
  case atStart => exact ⟨0, _, by omega, rfl, rfl, by simpa [putAll, Hid] using HO2.out, Below.refl _ _⟩
  case round =>
    obtain ⟨j, v0, hj, rfl, rfl, HO, HB⟩ := hrel
    have hbw := HB2.out.trans (HB.out.mono HB2.out.size)
    have HBW := hid hbw
    by_cases hlt : j < zs.length
    case neg =>
      have HP := hid (show NewI w (putAll [] (zs.map (namedF fs1))) (.returned v0) wr from ⟨v0, rfl, by have h := HO.out; rw [List.take_of_length_le (by omega)] at h; exact h, hbw⟩)
      clear hbw
      go_wp2_with fail
      go_ret
      exact HP.out
    case pos =>
      obtain ⟨bz, oz, rfl, hbz, hallz⟩ := H4Z.out (by omega)
      obtain ⟨nm, hnm⟩ : ∃ t, zs[j]? = some t := ⟨_, List.getElem?_eq_getElem hlt⟩
      have hnl := namedF_bd fs1 nm
      have hsn : putAll [] ((zs.take (j + 1)).map (namedF fs1)) = putI (namedF fs1 nm) (putAll [] ((zs.take j).map (namedF fs1))) := by rw [List.take_add_one, hnm]; simp only [Option.toList_some, List.map_append, List.map_cons, List.map_nil]; rw [putAll_snoc]
      have hpl : (putAll [] ((zs.take j).map (namedF fs1))).length ≤ 8 := by have := putAll_len ((zs.take j).map (namedF fs1)) []; simp only [List.length_map, List.length_take, List.length_nil] at this; omega
      have hpb : ∀ x ∈ putAll [] ((zs.take j).map (namedF fs1)), -9223372036854775808 ≤ x ∧ x ≤ 9223372036854775807 := fun x hx => by
        rcases putAll_mem _ _ x hx with h | h
        · obtain ⟨nm', _, rfl⟩ := List.mem_map.1 h; have := namedF_bd fs1 nm'; omega
        · simp at h
      have hn := fun V (hV : Below wr.heap.size wr V) => spec_l03Named fs1 (some ⟨b, o, none⟩) cfs1 nm V ((HFL.out.below HBW.out).below hV)
      generalize putAll [] ((zs.take j).map (namedF fs1)) = xs at HO hsn hpl hpb
      generalize namedF fs1 nm = r at hn hsn hnl
      have hrd := own_RdL HO.out hpb
      obtain ⟨av, cv, hv, -⟩ := hrd.eIn
      subst hv
      have hp := fun V (hV : Below wr.heap.size wr V) => spec_Put xs r av cv V (by omega) (hrd.below hV)
      have HN := hid hn
      have HP := hid hp
      have HSN := hid hsn
      have z1 := (HBW.out.cell (p := ⟨b1, o1 + 1, none⟩) XL.out).trans X1.out
      have zz := (HB.out.cell (p := ⟨bz, oz + j, none⟩) hbz).trans (hallz j nm hnm).1
      have hkeep : ∀ V, Below wr.heap.size wr V → (Below wr.heap.size wr V ∧ V.cell? ⟨b1, o1 + 1, none⟩ = some (.slice (some ⟨b, o, none⟩) fs1.length cfs1) ∧ V.cell? ⟨bz, oz + j, none⟩ = some (.string nm)) := fun V hV => ⟨hV, (hV.cell (p := ⟨b1, o1 + 1, none⟩) (World.block_lt_of_cell? _ _ z1)).trans z1, (hV.cell (p := ⟨bz, oz + j, none⟩) (World.block_lt_of_cell? _ _ zz)).trans zz⟩
      have KEEP := hid hkeep
      have hbd : Below wr.heap.size wr wr.drew := (Below.refl _ _).drew
      clear hn hp hsn hpb hrd hallz H4Z hnm hkeep hbw hnl
      go_wp2_with fail
      go_region_held3 (fun V => (Below wr.heap.size wr V ∧ V.cell? ⟨b1, o1 + 1, none⟩ = some (.slice (some ⟨b, o, none⟩) fs1.length cfs1) ∧ V.cell? ⟨bz, oz + j, none⟩ = some (.string nm)))
        (first | assumption | exact KEEP.out _ hbd | go_keep)
        (first
          | (go_at_call 46; (with_reducible refine (HN.out _ hbd).mono ?_); rintro e W2 ⟨rfl, rfl⟩)
          | (go_at_call 39; (with_reducible refine (HP.out _ hbd).mono ?_); rintro e W3 ⟨v3, rfl, ho3, hb3⟩; have HO3 := hid ho3; have hbd' := hbd.trans (hb3.mono hbd.size); clear hbd; have hbd := hbd'; clear hbd' ho3 hb3))
      have HBZ := hid hbd
      have HSZ := hid hbd.size
      clear hbd z1 zz
      go_wp2_with fail
      go_roundw
      case rel => exact ⟨j + 1, _, by omega, by go_num, rfl, hid (by rw [HSN.out]; exact ownsRow_monoI HO3.out (by have h1 := HBW.out.size; have h2 := HSZ.out; have h3 := HB2.out.size; simp at h2 h1 ⊢; omega)), hid (HB.out.trans (HBZ.out.mono HB.out.size))⟩
      case measure => simp [intOf]; omega
set_option maxRecDepth 100000 in
set_option maxHeartbeats 4000000 in
theorem spec_UsedDefs (ds1 : List Dat) (fs1 : List Df) (ads1 : Option Addr) (cds1 : Nat) (afs1 : Option Addr) (cfs1 : Nat) (k : Int) (w : World) (hM : Pg.bulk (Pg.mk ds1 fs1) ≤ 1048576) (hr : RdS w (Pg.d (Pg.mk ds1 fs1)) [.slice ads1 ds1.length cds1, .slice afs1 fs1.length cfs1]) :
    Calls Tryz.prog 7 #[.agg #[.slice ads1 ds1.length cds1, .slice afs1 fs1.length cfs1], .int .i64 k] w (GivesIns (usedN (.mk ds1 fs1) k) w) := by
  have hB := (Below.refl w.heap.size w).alloc (Nat.le_refl _) (.cells #[.slice ads1 ds1.length cds1, .slice afs1 fs1.length cfs1] 32)
  have hx := heap_alloc_new w (.cells #[.slice ads1 ds1.length cds1, .slice afs1 fs1.length cfs1] 32)
  have HX := hid hx
  have HB := hid hB
  have hlf : fs1.length ≤ 1048576 := by have h1 := Df.bulks_length fs1; have h2 : Pg.bulk (Pg.mk ds1 fs1) = Dat.bulks ds1 + Df.bulks fs1 := rfl; omega
  have HC := hid (spec_l03Names ds1 fs1 ads1 cds1 afs1 cfs1 w.heap.size 0 _ hM (heap_cell hx (j := 0) rfl) (heap_cell hx (j := 1) rfl) (hr.below hB))
  have HR := hid hr
  have HM := hid hM
  clear hx hB hr hM
  by_cases hck : checkN (.mk ds1 fs1) = 0
  case neg =>
    have HE := hid (show usedN (.mk ds1 fs1) k = [] by rw [usedN, if_neg (fun h => hck h.1)])
    generalize checkN (.mk ds1 fs1) = r at HC hck
    have hg : (r != 0) = true := by simp [hck]
    clear hck
    go_enter Tryz.func7, Tryz.ntmps7
    go_wp2_with fail
    refine HC.out.mono ?_
    rintro e w1 ⟨rfl, hb⟩
    have HB1 := hid (HB.out.trans (hb.mono HB.out.size))
    clear hb
    go_wp2_with fail
    go_ret
    rw [HE.out]
    exact GivesIns_none _ (HB1.out.alloc HB1.out.size _)
  case pos =>
    have HCK := hid hck
    rw [hck] at HC
    have HIN := hid (show ∀ V, Calls Tryz.prog 22 #[.int .i64 k, .int .i64 0, .int .i64 ((fs1.length : Int) - 1)] V fun e w' => e = .returned (.bool (inR k 0 ((fs1.length : Int) - 1))) ∧ V = w' from fun V => spec_In k 0 _ V)
    clear hck
    by_cases hin : 0 ≤ k ∧ k < fs1.length
    case neg =>
      have HE := hid (show usedN (.mk ds1 fs1) k = [] by rw [usedN, if_neg (fun h => hin h.2)])
      have hq : inR k 0 ((fs1.length : Int) - 1) = false := by simp [inR]; omega
      rw [hq] at HIN
      clear hq hin
      go_enter Tryz.func7, Tryz.ntmps7
      go_wp2_with fail
      refine HC.out.mono ?_
      rintro e w1 ⟨rfl, hb⟩
      have HB1 := hid (HB.out.trans (hb.mono HB.out.size))
      have HX1 := hid (heap_liftu HX.out hb)
      have e0 := heap_cell HX1.out (j := 0) rfl
      have e1 := heap_cell HX1.out (j := 1) rfl
      clear hb
      go_wp2_with fail
      refine (HIN.out _).mono ?_
      rintro e w2 ⟨rfl, rfl⟩
      go_wp2_with fail
      go_ret
      rw [HE.out]
      exact GivesIns_none _ (HB1.out.alloc HB1.out.size _)
    case pos =>
      obtain ⟨kk, rfl⟩ : ∃ kk : Nat, k = (kk : Int) := ⟨k.toNat, by omega⟩
      have hkl : kk < fs1.length := by omega
      obtain ⟨t, ht⟩ : ∃ t, fs1[kk]? = some t := ⟨_, List.getElem?_eq_getElem hkl⟩
      obtain ⟨n3, ⟨tk3, tn3, tks3⟩, ⟨bk3, bu3, bn3, ⟨btk3, btn3, btks3⟩, bns3, bks3⟩⟩ := t
      have HE := hid (show usedN (.mk ds1 fs1) (kk : Int) = usedOf fs1 (Tm.mk bk3 bu3 bn3 (Ty.mk btk3 btn3 btks3) bns3 bks3) by rw [usedN, if_pos ⟨HCK.out, hin⟩, usedAt, Int.toNat_natCast, ht]; rfl)
      have HT := hid ht
      have hq : inR (kk : Int) 0 ((fs1.length : Int) - 1) = true := by simp [inR]; omega
      rw [hq] at HIN
      have HUB := hid (fun x (hx : x ∈ usedOf fs1 (Tm.mk bk3 bu3 bn3 (Ty.mk btk3 btn3 btks3) bns3 bks3)) => (⟨by have := usedOf_bd fs1 (Tm.mk bk3 bu3 bn3 (Ty.mk btk3 btn3 btks3) bns3 bks3) x hx; omega, by have := usedOf_bd fs1 (Tm.mk bk3 bu3 bn3 (Ty.mk btk3 btn3 btks3) bns3 bks3) x hx; omega⟩ : -9223372036854775808 ≤ x ∧ x ≤ 9223372036854775807))
      clear hq hin ht
      go_enter Tryz.func7, Tryz.ntmps7
      go_wp2_with fail
      refine HC.out.mono ?_
      rintro e w1 ⟨rfl, hb⟩
      have HB1 := hid (HB.out.trans (hb.mono HB.out.size))
      have HX1 := hid (heap_liftu HX.out hb)
      have e0 := heap_cell HX1.out (j := 0) rfl
      have e1 := heap_cell HX1.out (j := 1) rfl
      have HUS := hid (spec_Used ds1 fs1 ads1 cds1 afs1 cfs1 kk n3 tk3 tn3 tks3 bk3 bu3 bn3 btk3 btn3 btks3 bns3 bks3 w.heap.size 0 w1 HM.out HT.out HCK.out (heap_cell HX1.out (j := 1) rfl) (HR.out.below HB1.out))
      clear hb
      go_wp2_with fail
      refine (HIN.out _).mono ?_
      rintro e w2 ⟨rfl, rfl⟩
      go_wp2_with fail
      refine HUS.out.mono ?_
      intro e w3 hnew
      have HG := hid (show GivesIns (usedN (.mk ds1 fs1) (kk : Int)) w e w3 by rw [HE.out]; exact GivesIns_new HB1.out hnew HUB.out)
      obtain ⟨v3, rfl, -⟩ := hnew
      clear e0 e1
      go_wp2_with fail
      go_ret
      exact HG.out
end Go.Proofs.YtgpefnlpbjnjbaaGreat

namespace Go.Proofs.YtgpefnlpbjnjbaaGreat
open Go.ChangeShapes Go.WideShapes Go.ChangeAt Go.RowKit Go.BigFrame
open Go.Sort (grow)
set_option linter.unusedVariables false

set_option maxRecDepth 100000 in
set_option maxHeartbeats 4000000 in
theorem impl_bits64 (n : Nat) (hn : n ≤ 12) : ∃ r : Int, -64 ≤ r ∧ r ≤ 64 ∧ ∀ w : World, Calls Tryz.prog 121 #[.int .u64 n] w fun e w' => e = .returned (.int .i64 r) ∧ w = w' := by
  match n, hn with
  | 0, _ =>
    refine ⟨0, by omega, by omega, fun w => ?_⟩
    show Calls Tryz.prog 121 #[.int .u64 0] w _
    go_enter Tryz.func121, Tryz.ntmps121
    go_wp2_with fail
    go_ret
    exact ⟨by kernel_rfl, rfl⟩
  | 1, _ =>
    refine ⟨1, by omega, by omega, fun w => ?_⟩
    show Calls Tryz.prog 121 #[.int .u64 1] w _
    go_enter Tryz.func121, Tryz.ntmps121
    go_wp2_with fail
    go_ret
    exact ⟨by kernel_rfl, rfl⟩
  | 2, _ =>
    refine ⟨2, by omega, by omega, fun w => ?_⟩
    show Calls Tryz.prog 121 #[.int .u64 2] w _
    go_enter Tryz.func121, Tryz.ntmps121
    go_wp2_with fail
    go_ret
    exact ⟨by kernel_rfl, rfl⟩
  | 3, _ =>
    refine ⟨2, by omega, by omega, fun w => ?_⟩
    show Calls Tryz.prog 121 #[.int .u64 3] w _
    go_enter Tryz.func121, Tryz.ntmps121
    go_wp2_with fail
    go_ret
    exact ⟨by kernel_rfl, rfl⟩
  | 4, _ =>
    refine ⟨3, by omega, by omega, fun w => ?_⟩
    show Calls Tryz.prog 121 #[.int .u64 4] w _
    go_enter Tryz.func121, Tryz.ntmps121
    go_wp2_with fail
    go_ret
    exact ⟨by kernel_rfl, rfl⟩
  | 5, _ =>
    refine ⟨3, by omega, by omega, fun w => ?_⟩
    show Calls Tryz.prog 121 #[.int .u64 5] w _
    go_enter Tryz.func121, Tryz.ntmps121
    go_wp2_with fail
    go_ret
    exact ⟨by kernel_rfl, rfl⟩
  | 6, _ =>
    refine ⟨3, by omega, by omega, fun w => ?_⟩
    show Calls Tryz.prog 121 #[.int .u64 6] w _
    go_enter Tryz.func121, Tryz.ntmps121
    go_wp2_with fail
    go_ret
    exact ⟨by kernel_rfl, rfl⟩
  | 7, _ =>
    refine ⟨3, by omega, by omega, fun w => ?_⟩
    show Calls Tryz.prog 121 #[.int .u64 7] w _
    go_enter Tryz.func121, Tryz.ntmps121
    go_wp2_with fail
    go_ret
    exact ⟨by kernel_rfl, rfl⟩
  | 8, _ =>
    refine ⟨4, by omega, by omega, fun w => ?_⟩
    show Calls Tryz.prog 121 #[.int .u64 8] w _
    go_enter Tryz.func121, Tryz.ntmps121
    go_wp2_with fail
    go_ret
    exact ⟨by kernel_rfl, rfl⟩
  | 9, _ =>
    refine ⟨4, by omega, by omega, fun w => ?_⟩
    show Calls Tryz.prog 121 #[.int .u64 9] w _
    go_enter Tryz.func121, Tryz.ntmps121
    go_wp2_with fail
    go_ret
    exact ⟨by kernel_rfl, rfl⟩
  | 10, _ =>
    refine ⟨4, by omega, by omega, fun w => ?_⟩
    show Calls Tryz.prog 121 #[.int .u64 10] w _
    go_enter Tryz.func121, Tryz.ntmps121
    go_wp2_with fail
    go_ret
    exact ⟨by kernel_rfl, rfl⟩
  | 11, _ =>
    refine ⟨4, by omega, by omega, fun w => ?_⟩
    show Calls Tryz.prog 121 #[.int .u64 11] w _
    go_enter Tryz.func121, Tryz.ntmps121
    go_wp2_with fail
    go_ret
    exact ⟨by kernel_rfl, rfl⟩
  | 12, _ =>
    refine ⟨4, by omega, by omega, fun w => ?_⟩
    show Calls Tryz.prog 121 #[.int .u64 12] w _
    go_enter Tryz.func121, Tryz.ntmps121
    go_wp2_with fail
    go_ret
    exact ⟨by kernel_rfl, rfl⟩
  | n + 13, h => exact absurd h (by omega)
set_option maxRecDepth 100000 in
set_option maxHeartbeats 4000000 in
theorem impl_bitsLen (n : Nat) (hn : n ≤ 12) : ∃ r : Int, -64 ≤ r ∧ r ≤ 64 ∧ ∀ w : World, Calls Tryz.prog 76 #[.int .u64 n] w fun e w' => e = .returned (.int .i64 r) ∧ w = w' := by
  match n, hn with
  | 0, _ =>
    obtain ⟨r, hr1, hr2, hr⟩ := impl_bits64 0 (by omega)
    have HR := hid hr
    refine ⟨r, hr1, hr2, fun w => ?_⟩
    show Calls Tryz.prog 76 #[.int .u64 0] w _
    clear hr
    go_enter Tryz.func76, Tryz.ntmps76
    go_wp2_with fail
    refine (HR.out _).mono ?_
    rintro e w1 ⟨rfl, rfl⟩
    go_wp2_with fail
    go_ret
    exact ⟨rfl, rfl⟩
  | 1, _ =>
    obtain ⟨r, hr1, hr2, hr⟩ := impl_bits64 1 (by omega)
    have HR := hid hr
    refine ⟨r, hr1, hr2, fun w => ?_⟩
    show Calls Tryz.prog 76 #[.int .u64 1] w _
    clear hr
    go_enter Tryz.func76, Tryz.ntmps76
    go_wp2_with fail
    refine (HR.out _).mono ?_
    rintro e w1 ⟨rfl, rfl⟩
    go_wp2_with fail
    go_ret
    exact ⟨rfl, rfl⟩
  | 2, _ =>
    obtain ⟨r, hr1, hr2, hr⟩ := impl_bits64 2 (by omega)
    have HR := hid hr
    refine ⟨r, hr1, hr2, fun w => ?_⟩
    show Calls Tryz.prog 76 #[.int .u64 2] w _
    clear hr
    go_enter Tryz.func76, Tryz.ntmps76
    go_wp2_with fail
    refine (HR.out _).mono ?_
    rintro e w1 ⟨rfl, rfl⟩
    go_wp2_with fail
    go_ret
    exact ⟨rfl, rfl⟩
  | 3, _ =>
    obtain ⟨r, hr1, hr2, hr⟩ := impl_bits64 3 (by omega)
    have HR := hid hr
    refine ⟨r, hr1, hr2, fun w => ?_⟩
    show Calls Tryz.prog 76 #[.int .u64 3] w _
    clear hr
    go_enter Tryz.func76, Tryz.ntmps76
    go_wp2_with fail
    refine (HR.out _).mono ?_
    rintro e w1 ⟨rfl, rfl⟩
    go_wp2_with fail
    go_ret
    exact ⟨rfl, rfl⟩
  | 4, _ =>
    obtain ⟨r, hr1, hr2, hr⟩ := impl_bits64 4 (by omega)
    have HR := hid hr
    refine ⟨r, hr1, hr2, fun w => ?_⟩
    show Calls Tryz.prog 76 #[.int .u64 4] w _
    clear hr
    go_enter Tryz.func76, Tryz.ntmps76
    go_wp2_with fail
    refine (HR.out _).mono ?_
    rintro e w1 ⟨rfl, rfl⟩
    go_wp2_with fail
    go_ret
    exact ⟨rfl, rfl⟩
  | 5, _ =>
    obtain ⟨r, hr1, hr2, hr⟩ := impl_bits64 5 (by omega)
    have HR := hid hr
    refine ⟨r, hr1, hr2, fun w => ?_⟩
    show Calls Tryz.prog 76 #[.int .u64 5] w _
    clear hr
    go_enter Tryz.func76, Tryz.ntmps76
    go_wp2_with fail
    refine (HR.out _).mono ?_
    rintro e w1 ⟨rfl, rfl⟩
    go_wp2_with fail
    go_ret
    exact ⟨rfl, rfl⟩
  | 6, _ =>
    obtain ⟨r, hr1, hr2, hr⟩ := impl_bits64 6 (by omega)
    have HR := hid hr
    refine ⟨r, hr1, hr2, fun w => ?_⟩
    show Calls Tryz.prog 76 #[.int .u64 6] w _
    clear hr
    go_enter Tryz.func76, Tryz.ntmps76
    go_wp2_with fail
    refine (HR.out _).mono ?_
    rintro e w1 ⟨rfl, rfl⟩
    go_wp2_with fail
    go_ret
    exact ⟨rfl, rfl⟩
  | 7, _ =>
    obtain ⟨r, hr1, hr2, hr⟩ := impl_bits64 7 (by omega)
    have HR := hid hr
    refine ⟨r, hr1, hr2, fun w => ?_⟩
    show Calls Tryz.prog 76 #[.int .u64 7] w _
    clear hr
    go_enter Tryz.func76, Tryz.ntmps76
    go_wp2_with fail
    refine (HR.out _).mono ?_
    rintro e w1 ⟨rfl, rfl⟩
    go_wp2_with fail
    go_ret
    exact ⟨rfl, rfl⟩
  | 8, _ =>
    obtain ⟨r, hr1, hr2, hr⟩ := impl_bits64 8 (by omega)
    have HR := hid hr
    refine ⟨r, hr1, hr2, fun w => ?_⟩
    show Calls Tryz.prog 76 #[.int .u64 8] w _
    clear hr
    go_enter Tryz.func76, Tryz.ntmps76
    go_wp2_with fail
    refine (HR.out _).mono ?_
    rintro e w1 ⟨rfl, rfl⟩
    go_wp2_with fail
    go_ret
    exact ⟨rfl, rfl⟩
  | 9, _ =>
    obtain ⟨r, hr1, hr2, hr⟩ := impl_bits64 9 (by omega)
    have HR := hid hr
    refine ⟨r, hr1, hr2, fun w => ?_⟩
    show Calls Tryz.prog 76 #[.int .u64 9] w _
    clear hr
    go_enter Tryz.func76, Tryz.ntmps76
    go_wp2_with fail
    refine (HR.out _).mono ?_
    rintro e w1 ⟨rfl, rfl⟩
    go_wp2_with fail
    go_ret
    exact ⟨rfl, rfl⟩
  | 10, _ =>
    obtain ⟨r, hr1, hr2, hr⟩ := impl_bits64 10 (by omega)
    have HR := hid hr
    refine ⟨r, hr1, hr2, fun w => ?_⟩
    show Calls Tryz.prog 76 #[.int .u64 10] w _
    clear hr
    go_enter Tryz.func76, Tryz.ntmps76
    go_wp2_with fail
    refine (HR.out _).mono ?_
    rintro e w1 ⟨rfl, rfl⟩
    go_wp2_with fail
    go_ret
    exact ⟨rfl, rfl⟩
  | 11, _ =>
    obtain ⟨r, hr1, hr2, hr⟩ := impl_bits64 11 (by omega)
    have HR := hid hr
    refine ⟨r, hr1, hr2, fun w => ?_⟩
    show Calls Tryz.prog 76 #[.int .u64 11] w _
    clear hr
    go_enter Tryz.func76, Tryz.ntmps76
    go_wp2_with fail
    refine (HR.out _).mono ?_
    rintro e w1 ⟨rfl, rfl⟩
    go_wp2_with fail
    go_ret
    exact ⟨rfl, rfl⟩
  | 12, _ =>
    obtain ⟨r, hr1, hr2, hr⟩ := impl_bits64 12 (by omega)
    have HR := hid hr
    refine ⟨r, hr1, hr2, fun w => ?_⟩
    show Calls Tryz.prog 76 #[.int .u64 12] w _
    clear hr
    go_enter Tryz.func76, Tryz.ntmps76
    go_wp2_with fail
    refine (HR.out _).mono ?_
    rintro e w1 ⟨rfl, rfl⟩
    go_wp2_with fail
    go_ret
    exact ⟨rfl, rfl⟩
  | n + 13, h => exact absurd h (by omega)
theorem impl_isNaN (x : Int) (w : World) : Calls Tryz.prog 156 #[.int .i64 x] w fun e w' => e = .returned (.bool false) ∧ w = w' := by
  go_enter Tryz.func156, Tryz.ntmps156
  go_wp2_with fail
  go_ret
  exact ⟨rfl, rfl⟩
theorem impl_less (x y : Int) (w : World) : Calls Tryz.prog 117 #[.int .i64 x, .int .i64 y] w fun e w' => e = .returned (.bool (decide (x < y))) ∧ w = w' := by
  obtain ⟨r, hr⟩ : ∃ r, decide (x < y) = r := ⟨_, rfl⟩
  rw [hr]
  go_enter Tryz.func117, Tryz.ntmps117
  go_wp2_with fail
  refine (impl_isNaN x _).mono ?_
  rintro e w1 ⟨rfl, rfl⟩
  go_wp2_with fail
  go_ret
  exact ⟨rfl, rfl⟩
/-- What sorting leaves. -/
def SortedAt (te : TypeId) (g : Nat) (xs : List Int) (tl : List Value) (B : Nat) (w w' : World) : Prop := ∃ ys, ys.Perm xs ∧ ys.Pairwise (· ≤ ·) ∧ IntsAt te g ys tl w' ∧ w.grownBy w' (some g)
theorem grown_refl (w : World) (b : Option Nat) : w.grownBy w b := ⟨rfl, rfl, rfl, Nat.le_refl _, fun _ _ _ => rfl⟩
theorem grown_trans {a b c : World} {g : Option Nat} (h : a.grownBy b g) (k : b.grownBy c g) : a.grownBy c g := ⟨k.os.trans h.os, k.tape.trans h.tape, k.output.trans h.output, Nat.le_trans h.size k.size, fun x hx hn => (k.block x (Nat.lt_of_lt_of_le hx h.size) hn).trans (h.block x hx hn)⟩
theorem grown_below {a b : World} {g : Option Nat} (h : Below a.heap.size a b) : a.grownBy b g := ⟨h.os, h.tape, h.output, h.size, fun x hx _ => h.block x hx⟩
theorem grown_set {w : World} {g i : Nat} {v : Value} : w.grownBy (w.setCell ⟨g, i, none⟩ v) (some g) := ⟨rfl, rfl, rfl, by simp [World.setCell], fun x hx hn => Below.heap_setCell w ⟨g, i, none⟩ v x (fun e => hn (by rw [e]))⟩
end Go.Proofs.YtgpefnlpbjnjbaaGreat

namespace Go.Proofs.YtgpefnlpbjnjbaaGreat
open Go.ChangeShapes Go.WideShapes Go.ChangeAt Go.RowKit Go.BigFrame
open Go.Sort (grow)
set_option linter.unusedVariables false

theorem calls_belowS {P : Program} {f : FuncId} {args : Array Value} {w : World} {v : Value} (h : Calls P f args w fun e w' => e = .returned v ∧ w = w') : Calls P f args w fun e w' => e = .returned v ∧ Below w.heap.size w w' := h.mono (by rintro e w' ⟨rfl, rfl⟩; exact ⟨rfl, Below.refl _ _⟩)
set_option maxRecDepth 100000 in
set_option maxHeartbeats 4000000 in
theorem impl_insertion (g c : Nat) (xs : List Int) (tl : List Value) (w : World) (hn : xs.length ≤ 12) (hc : xs.length ≤ c) (hcm : c ≤ maxLen) (h : IntsAt 2 g xs tl w) :
    Calls Tryz.prog 111 #[.slice (some ⟨g, 0, none⟩) xs.length c, .int .i64 0, .int .i64 xs.length] w fun e w' => e = .returned (.tuple #[]) ∧ SortedAt 2 g xs tl 0 w w' := by
  have H := hid h
  have hcb : c ≤ 9223372036854775807 := by simp only [maxLen] at hcm; omega
  clear h hcm
  go_enter Tryz.func111, Tryz.ntmps111
  go_wp2_with fail
  go_loopw [6] (fun i wr => ∃ (i0 : Nat) (cur : List Int), 1 ≤ i0 ∧ i0 ≤ 13 ∧ i = .int .i64 i0 ∧ Hid (i0 ≤ xs.length ∨ i0 = 1) ∧ Hid (cur.Perm xs) ∧ Hid (RiseTo i0 cur) ∧ Hid (IntsAt 2 g cur tl wr) ∧ Hid (w.grownBy wr (some g))) (fun i _ => xs.length + 1 - (intOf i).toNat)
  case atStart => exact ⟨1, xs, by omega, by omega, rfl, hid (.inr rfl), hid (List.Perm.refl _), hid (fun p q a b h1 h2 => absurd h1 (by omega)), H, hid (grown_refl _ _)⟩
  case round =>
    obtain ⟨i0, cur, hi1, hi2, rfl, HL, HP, HR, HA, HG⟩ := hrel
    obtain ⟨wo, hwo⟩ : ∃ wo, wo = wr := ⟨_, rfl⟩
    subst hwo
    by_cases hlt : i0 < xs.length
    case neg =>
      have HS := hid (show SortedAt 2 g xs tl 0 w wo from ⟨cur, HP.out, RiseTo.pairwise (fun p q a b h1 h2 ha hb => HR.out p q a b h1 (by have hl := HP.out.length_eq; rcases HL.out with h | h <;> omega) ha hb), HA.out, HG.out⟩)
      go_wp2_with fail
      (try simp only [Exit.inBlock, Exit.then])
      first
        | (refine bodyPost_ret (results_none rfl _ _ _) rfl ?_)
        | (refine bodyPost_end (results_none rfl _ _ _) rfl ?_)
      exact ⟨rfl, HS.out⟩
    case pos =>
      have HLC := hid HP.out.length_eq
      go_wp2_with fail
      go_loopw [7] (fun i wr => ∃ (j0 : Nat) (cu : List Int), j0 ≤ i0 ∧ i = .int .i64 j0 ∧ Hid (cu.Perm xs) ∧ Hid (InsAt i0 j0 cu) ∧ Hid (IntsAt 2 g cu tl wr) ∧ Hid (w.grownBy wr (some g))) (fun i _ => (intOf i).toNat)
      case atStart => exact ⟨i0, cur, by omega, rfl, HP, hid (InsAt.start HR.out), HA, HG⟩
      case round =>
        obtain ⟨j0, cu, hj0, rfl, HPC, HIN, HAC, HGC⟩ := hrel
        have HLU := hid HPC.out.length_eq
        rcases j0 with _ | m
        case zero =>
          have HRI := hid (InsAt.stop0 HIN.out)
          go_wp2_with fail
          refine wp_region_quiet_below (by kernel_rfl) (by kernel_rfl) ?_
          repeat (go_big_quiet_step (fail))
          refine wpQuiet_nil ?_
          intro w3 hw'
          obtain ⟨⟨dq, osq⟩, hw''⟩ := hw'
          have hb3 : Below wr.heap.size wr w3 := by subst hw''; exact below_regrown wr dq osq
          clear hw''
          have hgz := grown_trans HGC.out (grown_below hb3)
          have HGZ := hid hgz
          have HAZ := hid (show IntsAt 2 g cu tl w3 from (hb3.block _ (Array.getElem?_eq_some_iff.1 HAC.out).1).trans HAC.out)
          clear hgz hb3
          go_wp2_with fail
          go_roundw
          case rel => exact ⟨i0 + 1, cu, by omega, by omega, by go_num, hid (.inl (by omega)), HPC, HRI, HAZ, HGZ⟩
          case measure => simp [intOf]; omega
        case succ =>
          obtain ⟨x, hx⟩ : ∃ x, cu[m + 1]? = some x := ⟨_, List.getElem?_eq_getElem (by have := HLU.out; omega)⟩
          obtain ⟨y, hy⟩ : ∃ y, cu[m]? = some y := ⟨_, List.getElem?_eq_getElem (by have := HLU.out; omega)⟩
          have ex := cell_regrown (HAC.out.cell hx)
          have ey := cell_regrown (HAC.out.cell hy)
          have hls := fun d os => Calls.regrown_of (calls_belowS (impl_less x y (grow (redrawn wr d) os)))
          have hmx : m + 1 < xs.length := by omega
          have hmb : (m : Int) + 1 ≤ 13 := by omega
          have HX := hid hx
          have HY := hid hy
          have HHC := hid hc
          clear hx hy
          by_cases hxy : x < y
          case neg =>
            rw [decide_eq_false hxy] at hls
            have HC := hid hls
            have HRI := hid (InsAt.stop HIN.out (by omega) HX.out HY.out hxy)
            clear hls hxy
            go_wp2_with fail
            refine wp_region_quiet_below (by kernel_rfl) (by kernel_rfl) ?_
            repeat (go_big_quiet_step (exact HC.out _ _))
            refine wpQuiet_nil ?_
            intro w3 hw'
            obtain ⟨⟨dq, osq⟩, hw''⟩ := hw'
            have hb3 : Below wr.heap.size wr w3 := by subst hw''; exact below_regrown wr dq osq
            clear hw''
            have hgz := grown_trans HGC.out (grown_below hb3)
            have HGZ := hid hgz
            have HAZ := hid (show IntsAt 2 g cu tl w3 from (hb3.block _ (Array.getElem?_eq_some_iff.1 HAC.out).1).trans HAC.out)
            clear hgz hb3 ex ey
            go_wp2_with fail
            go_roundw
            case rel => exact ⟨i0 + 1, cu, by omega, by omega, by go_num, hid (.inl (by omega)), HPC, HRI, HAZ, HGZ⟩
            case measure => simp [intOf]; omega
          case pos =>
            rw [decide_eq_true hxy] at hls
            have HC := hid hls
            have HIS := hid (InsAt.swap HIN.out (by omega) HX.out HY.out hxy)
            have HPS := hid ((swapL_perm HX.out HY.out).trans HPC.out)
            clear hls hxy
            go_wp2_with fail
            refine wp_region_quiet_below (by kernel_rfl) (by kernel_rfl) ?_
            repeat (go_big_quiet_step (exact HC.out _ _))
            refine wpQuiet_nil ?_
            intro w3 hw'
            obtain ⟨⟨dq, osq⟩, hw''⟩ := hw'
            have hb3 : Below wr.heap.size wr w3 := by subst hw''; exact below_regrown wr dq osq
            clear hw''
            have hgz := grown_trans HGC.out (grown_below hb3)
            have HGZ := hid hgz
            have HAZ := hid (show IntsAt 2 g cu tl w3 from (hb3.block _ (Array.getElem?_eq_some_iff.1 HAC.out).1).trans HAC.out)
            clear hgz hb3 ex ey
            have qx := HAZ.out.cell HX.out
            have qy := HAZ.out.cell HY.out
            have z1 := HAZ.out.free (m + 1)
            have z0 := HAZ.out.free m
            go_wp2_with fail
            have HLM := hid (show m + 1 < cu.length by have := HLU.out; omega)
            go_region
            have HAS := hid (show IntsAt 2 g (swapL cu m x y) tl (((w3.setCell ⟨g, m + 1, none⟩ (.int .i64 y)).setCell ⟨g, m, none⟩ (.int .i64 x)).drew) from (HAZ.out.set HLM.out y).set (by rw [List.length_set]; have := HLM.out; omega) x)
            have HGS := hid (show w.grownBy (((w3.setCell ⟨g, m + 1, none⟩ (.int .i64 y)).setCell ⟨g, m, none⟩ (.int .i64 x)).drew) (some g) from grown_trans (grown_trans (grown_trans HGZ.out grown_set) grown_set) (grown_below (Below.refl _ _).drew))
            clear qx qy z0 z1
            go_wp2_with fail
            go_roundw
            case rel => exact ⟨m, swapL cu m x y, by omega, by go_num, HPS, HIS, HAS, HGS⟩
            case measure => simp [intOf]
set_option maxRecDepth 100000 in
set_option maxHeartbeats 4000000 in
theorem impl_pdq (g c : Nat) (xs : List Int) (tl : List Value) (lim : Int) (w : World) (hn : xs.length ≤ 12) (hc : xs.length ≤ c) (hcm : c ≤ maxLen) (h : IntsAt 2 g xs tl w) :
    Calls Tryz.prog 75 #[.slice (some ⟨g, 0, none⟩) xs.length c, .int .i64 0, .int .i64 xs.length, .int .i64 lim] w fun e w' => e = .returned (.tuple #[]) ∧ SortedAt 2 g xs tl 0 w w' := by
  have HI := hid (impl_insertion g c xs tl w hn hc hcm h)
  clear h hcm
  go_enter Tryz.func75, Tryz.ntmps75
  go_wp2_with fail
  go_loopw [1, 2] (fun a b wr => a = .int .i64 0 ∧ b = .int .i64 xs.length ∧ w = wr) (fun _ _ _ => 0)
  case atStart => exact ⟨rfl, rfl, rfl⟩
  case round =>
    obtain ⟨rfl, rfl, rfl⟩ := hrel
    go_wp2_with fail
    refine HI.out.mono ?_
    rintro e w1 ⟨rfl, hs⟩
    have HS := hid hs
    clear hs
    go_wp2_with fail
    (try simp only [Exit.inBlock, Exit.then])
    first
      | (refine bodyPost_ret (results_none rfl _ _ _) rfl ?_)
      | (refine bodyPost_end (results_none rfl _ _ _) rfl ?_)
    exact ⟨rfl, HS.out⟩
theorem impl_Sort (g c n : Nat) (xs : List Int) (tl : List Value) (w : World) (hxn : xs.length = n) (hn : n ≤ 12) (hc : n ≤ c) (hcm : c ≤ maxLen) (h : IntsAt 2 g xs tl w) :
    Calls Tryz.prog 41 #[.slice (some ⟨g, 0, none⟩) n c] w fun e w' => e = .returned (.tuple #[]) ∧ SortedAt 2 g xs tl 0 w w' := by
  subst hxn
  obtain ⟨r, hr1, hr2, hr⟩ := impl_bitsLen xs.length hn
  have HR := hid hr
  have HP := hid (impl_pdq g c xs tl r w hn hc hcm h)
  clear h hcm hr
  go_enter Tryz.func41, Tryz.ntmps41
  go_wp2_with fail
  refine (HR.out _).mono ?_
  rintro e w1 ⟨rfl, rfl⟩
  go_wp2_with fail
  refine HP.out.mono ?_
  rintro e w2 ⟨rfl, hs⟩
  have HS := hid hs
  clear hs
  go_wp2_with fail
  (try simp only [Exit.inBlock, Exit.then])
  first
    | (refine bodyPost_ret (results_none rfl _ _ _) rfl ?_)
    | (refine bodyPost_end (results_none rfl _ _ _) rfl ?_)
  exact ⟨rfl, HS.out⟩
end Go.Proofs.YtgpefnlpbjnjbaaGreat

namespace Go.Proofs.YtgpefnlpbjnjbaaGreat
open Go.ChangeShapes Go.WideShapes Go.ChangeAt Go.RowKit Go.BigFrame
open Go.Sort (grow)
set_option linter.unusedVariables false

theorem impl_insNil (w : World) : Calls Tryz.prog 111 #[.slice none 0 0, .int .i64 0, .int .i64 0] w fun e w' => e = .returned (.tuple #[]) ∧ w = w' := by
  go_enter Tryz.func111, Tryz.ntmps111
  go_wp2_with fail
  go_loopw [6] (fun i wr => i = .int .i64 1 ∧ w = wr) (fun _ _ => 0)
  case atStart => exact ⟨rfl, rfl⟩
  case round =>
    obtain ⟨rfl, rfl⟩ := hrel
    go_wp2_with fail
    (try simp only [Exit.inBlock, Exit.then])
    first
      | (refine bodyPost_ret (results_none rfl _ _ _) rfl ?_)
      | (refine bodyPost_end (results_none rfl _ _ _) rfl ?_)
    exact ⟨rfl, rfl⟩
theorem impl_pdqNil (lim : Int) (w : World) : Calls Tryz.prog 75 #[.slice none 0 0, .int .i64 0, .int .i64 0, .int .i64 lim] w fun e w' => e = .returned (.tuple #[]) ∧ w = w' := by
  go_enter Tryz.func75, Tryz.ntmps75
  go_wp2_with fail
  go_loopw [1, 2] (fun a b wr => a = .int .i64 0 ∧ b = .int .i64 0 ∧ w = wr) (fun _ _ _ => 0)
  case atStart => exact ⟨rfl, rfl, rfl⟩
  case round =>
    obtain ⟨rfl, rfl, rfl⟩ := hrel
    go_wp2_with fail
    refine (impl_insNil w).mono ?_
    rintro e w1 ⟨rfl, rfl⟩
    go_wp2_with fail
    (try simp only [Exit.inBlock, Exit.then])
    first
      | (refine bodyPost_ret (results_none rfl _ _ _) rfl ?_)
      | (refine bodyPost_end (results_none rfl _ _ _) rfl ?_)
    exact ⟨rfl, rfl⟩
theorem impl_SortNil (w : World) : Calls Tryz.prog 41 #[.slice none 0 0] w fun e w' => e = .returned (.tuple #[]) ∧ w = w' := by
  obtain ⟨r, hr1, hr2, hr⟩ := impl_bitsLen 0 (by omega)
  have HR := hid (fun W => hr W)
  clear hr
  go_enter Tryz.func41, Tryz.ntmps41
  go_wp2_with fail
  refine (HR.out _).mono ?_
  rintro e w1 ⟨rfl, rfl⟩
  go_wp2_with fail
  refine (impl_pdqNil r w).mono ?_
  rintro e w2 ⟨rfl, rfl⟩
  go_wp2_with fail
  (try simp only [Exit.inBlock, Exit.then])
  first
    | (refine bodyPost_ret (results_none rfl _ _ _) rfl ?_)
    | (refine bodyPost_end (results_none rfl _ _ _) rfl ?_)
  exact ⟨rfl, rfl⟩
/-- The list of the call's own, sorted: different numbers, at most twelve. -/
theorem sort_own {B : Nat} {w : World} {v : Value} {ns : List Int} (hB : B ≤ w.heap.size) (hn : ns.length ≤ 12) (hd : ns.Nodup) (ho : w.ownsRow B 2 1 v ns.length (ns.map (Value.int .i64))) :
    Calls Tryz.prog 41 #[v] w fun e w' => e = .returned (.tuple #[]) ∧ w'.ownsRow B 2 1 v (putAll [] ns).length ((putAll [] ns).map (Value.int .i64)) ∧ Below B w w' := by
  rcases ho.2 with ⟨rfl, hz⟩ | ⟨g, c, cur, rfl, hBg, rest⟩
  · obtain rfl : ns = [] := List.length_eq_zero_iff.1 hz
    refine (impl_SortNil w).mono ?_
    rintro e w' ⟨rfl, rfl⟩
    exact ⟨rfl, ho, Below.refl _ _⟩
  · obtain ⟨tl, h1, h2, h3, h4, h5, h6⟩ := IntsAt.of_own ho
    refine (impl_Sort g c ns.length ns tl w rfl hn h4 h5 h1).mono ?_
    rintro e w' ⟨rfl, ys, hp, hs, hi, hg⟩
    have he := sorted_putAll hd hp hs
    have hlen : ns.length = (putAll [] ns).length := by rw [← he]; exact hp.length_eq.symm
    refine ⟨rfl, ?_, (Below.refl B w).grown hg hB fun k hk => by simp only [Option.some.injEq] at hk; omega⟩
    rw [he] at hi
    rw [hlen]
    exact hi.own (by rw [← hlen]; exact h2) h5 h6
theorem impl_hasDef (ds1 : List Dat) (fs1 : List Df) (ads1 : Option Addr) (cds1 : Nat) (afs1 : Option Addr) (cfs1 : Nat) (k : Int) (w : World) : Calls Tryz.prog 26 #[.agg #[.slice ads1 ds1.length cds1, .slice afs1 fs1.length cfs1], .int .i64 k] w fun e w' => e = .returned (.bool (decide (0 ≤ k) && decide (k < fs1.length))) ∧ Below w.heap.size w w' := by
  have hB := (Below.refl w.heap.size w).alloc (Nat.le_refl _) (.cells #[.slice ads1 ds1.length cds1, .slice afs1 fs1.length cfs1] 32)
  have hx := heap_alloc_new w (.cells #[.slice ads1 ds1.length cds1, .slice afs1 fs1.length cfs1] 32)
  have e0 := heap_cell hx (j := 0) rfl
  have e1 := heap_cell hx (j := 1) rfl
  have HB := hid hB
  clear hB hx
  by_cases h0 : 0 ≤ k
  case neg =>
    have g0 : decide (0 ≤ k) = false := decide_eq_false h0
    rw [g0]
    clear h0
    go_enter Tryz.func26, Tryz.ntmps26
    go_wp2_with fail
    go_ret
    exact ⟨rfl, HB.out⟩
  case pos =>
    have g0 : decide (0 ≤ k) = true := decide_eq_true h0
    rw [g0]
    obtain ⟨r, hr⟩ : ∃ r, decide (k < (fs1.length : Int)) = r := ⟨_, rfl⟩
    rw [hr]
    clear h0
    go_enter Tryz.func26, Tryz.ntmps26
    go_wp2_with fail
    go_ret
    exact ⟨rfl, HB.out⟩
set_option maxRecDepth 100000 in
set_option maxHeartbeats 4000000 in
theorem impl_Used (ds1 : List Dat) (fs1 : List Df) (ads1 : Option Addr) (cds1 : Nat) (afs1 : Option Addr) (cfs1 : Nat) (kk : Nat) (n3 : ByteArray) (tk3 : Int) (tn3 : ByteArray) (tks3 : List Ty) (bk3 bu3 : Int) (bn3 : ByteArray) (btk3 : Int) (btn3 : ByteArray) (btks3 : List Ty) (bns3 : List ByteArray) (bks3 : List Tm) (w : World) (hM : Pg.bulk (Pg.mk ds1 fs1) ≤ 1048576) (hj : fs1[kk]? = some (Df.mk n3 (Ty.mk tk3 tn3 tks3) (Tm.mk bk3 bu3 bn3 (Ty.mk btk3 btn3 btks3) bns3 bks3))) (hck : checkN (.mk ds1 fs1) = 0) (hr : RdS w (Pg.d (Pg.mk ds1 fs1)) [.slice ads1 ds1.length cds1, .slice afs1 fs1.length cfs1]) :
    Calls Tryz.prog 27 #[.agg #[.slice ads1 ds1.length cds1, .slice afs1 fs1.length cfs1], .int .i64 kk] w (NewI w (usedOf fs1 (Tm.mk bk3 bu3 bn3 (Ty.mk btk3 btn3 btks3) bns3 bks3))) := by
  obtain ⟨_, _, e, h2, h3, h4⟩ := hr.fPg.2.eDf
  simp only [Value.slice.injEq, true_and] at e
  obtain ⟨rfl, rfl⟩ := e
  have hkl : kk < fs1.length := (List.getElem?_eq_some_iff.1 hj).1
  obtain ⟨b, o, rfl, hbl, hall⟩ := h4 (by omega)
  obtain ⟨atks3, ctks3, abtks3, cbtks3, abns3, cbns3, abks3, cbks3, q0, q1, q2, q3, q4, q5, q6, q7, q8, q9, q10, q11, hrk⟩ := hall kk n3 tk3 tn3 tks3 bk3 bu3 bn3 btk3 btn3 btks3 bns3 bks3 hj
  have hbg := Df.bulk_get fs1 kk _ hj
  have hbk : Df.bulk (Df.mk n3 (Ty.mk tk3 tn3 tks3) (Tm.mk bk3 bu3 bn3 (Ty.mk btk3 btn3 btks3) bns3 bks3)) = n3.size + Ty.bulk (Ty.mk tk3 tn3 tks3) + Tm.bulk (Tm.mk bk3 bu3 bn3 (Ty.mk btk3 btn3 btks3) bns3 bks3) := rfl
  have hbp : Pg.bulk (Pg.mk ds1 fs1) = Dat.bulks ds1 + Df.bulks fs1 := rfl
  have hlf := Df.bulks_length fs1
  have hMb : Tm.bulk (Tm.mk bk3 bu3 bn3 (Ty.mk btk3 btn3 btks3) bns3 bks3) ≤ 1048576 := by omega
  have hlf2 : fs1.length ≤ 8 := prog_len (check_ok hck).1
  have hgb := (prog_def (check_ok hck).1 hj).2
  have hul := used_len hck hj
  have hbd : ∀ x ∈ putAll [] ((Tm.free (Tm.mk bk3 bu3 bn3 (Ty.mk btk3 btn3 btks3) bns3 bks3) [] []).map (namedF fs1)), -1 ≤ x ∧ x < fs1.length := usedOf_bd fs1 (Tm.mk bk3 bu3 bn3 (Ty.mk btk3 btn3 btks3) bns3 bks3)
  have hB := (Below.refl w.heap.size w).alloc (Nat.le_refl _) (.cells #[.slice ads1 ds1.length cds1, .slice (some ⟨b, o, none⟩) fs1.length cfs1] 32)
  have hx := heap_alloc_new w (.cells #[.slice ads1 ds1.length cds1, .slice (some ⟨b, o, none⟩) fs1.length cfs1] 32)
  have HX := hid hx
  have HB0 := hid hB
  have e1 := heap_cell hx (j := 1) rfl
  have d0 := (hB.cell (p := ⟨b, o + kk * 12, none⟩) hbl).trans q0
  have d1 := (hB.cell (p := ⟨b, o + kk * 12 + 1, none⟩) hbl).trans q1
  have d2 := (hB.cell (p := ⟨b, o + kk * 12 + 2, none⟩) hbl).trans q2
  have d3 := (hB.cell (p := ⟨b, o + kk * 12 + 3, none⟩) hbl).trans q3
  have d4 := (hB.cell (p := ⟨b, o + kk * 12 + 4, none⟩) hbl).trans q4
  have d5 := (hB.cell (p := ⟨b, o + kk * 12 + 5, none⟩) hbl).trans q5
  have d6 := (hB.cell (p := ⟨b, o + kk * 12 + 6, none⟩) hbl).trans q6
  have d7 := (hB.cell (p := ⟨b, o + kk * 12 + 7, none⟩) hbl).trans q7
  have d8 := (hB.cell (p := ⟨b, o + kk * 12 + 8, none⟩) hbl).trans q8
  have d9 := (hB.cell (p := ⟨b, o + kk * 12 + 9, none⟩) hbl).trans q9
  have d10 := (hB.cell (p := ⟨b, o + kk * 12 + 10, none⟩) hbl).trans q10
  have d11 := (hB.cell (p := ⟨b, o + kk * 12 + 11, none⟩) hbl).trans q11
  have hfr := impl_free bk3 bu3 bn3 btk3 btn3 btks3 bns3 bks3 abtks3 cbtks3 abns3 cbns3 abks3 cbks3 _ hMb hgb ((RdS.subDf_b hrk).below hB)
  have hU : usedOf fs1 (Tm.mk bk3 bu3 bn3 (Ty.mk btk3 btn3 btks3) bns3 bks3) = putAll [] ((Tm.free (Tm.mk bk3 bu3 bn3 (Ty.mk btk3 btn3 btks3) bns3 bks3) [] []).map (namedF fs1)) := rfl
  have hnd := used_nodup hck hj
  rw [hU]
  clear hU
  generalize Tm.free (Tm.mk bk3 bu3 bn3 (Ty.mk btk3 btn3 btks3) bns3 bks3) [] [] = zs at hfr hul hbd hnd ⊢
  have HND := hid hnd
  have HFR := hid hfr
  have HFL := hid hr.fPg.2
  clear hfr hbd hgb hbg hbk hbp hMb hrk hall h2 h3 h4 q0 q1 q2 q3 q4 q5 q6 q7 q8 q9 q10 q11 hr hck hM hj hlf hnd hB hx
  go_enter Tryz.func27, Tryz.ntmps27
  go_wp2_with fail
  refine HFR.out.mono ?_
  rintro e w2 ⟨af, cf, rfl, hof, hb2⟩
  have HB2 := hid (HB0.out.trans (hb2.mono HB0.out.size))
  have HX2 := hid (heap_liftu HX.out hb2)
  obtain ⟨_, _, e, h2z, h3z, h4z⟩ := hof.rd.eSr
  simp only [Value.slice.injEq, true_and] at e
  obtain ⟨rfl, rfl⟩ := e
  have H4Z := hid h4z
  have HWZ := hid (show w.heap.size < w2.heap.size from (Array.getElem?_eq_some_iff.1 HX2.out).1)
  clear hof hb2 h2z h3z h4z d0 d1 d2 d3 d4 d5 d6 d7 d8 d9 d10 d11 e1
  go_wp2_with fail
  go_loopw [5, 7, 16] (fun u _ i wr => ∃ (j : Nat) (v0 : Value), j ≤ zs.length ∧ i = .int .i64 j ∧ v0 = u ∧ Hid (wr.ownsRow w2.heap.size 2 1 v0 ((zs.take j).map (namedF fs1)).length (((zs.take j).map (namedF fs1)).map (Value.int .i64))) ∧ Hid (Below w2.heap.size w2 wr)) (fun _ _ i _ => zs.length - (intOf i).toNat)
  case atStart => exact ⟨0, _, by omega, rfl, rfl, hid (by simpa using World.ownsRow_nil w2 w2.heap.size 2 1), Below.refl _ _⟩
  case round =>
    obtain ⟨j, v0, hj, rfl, rfl, HO, HB⟩ := hrel
    have hbw := HB2.out.trans (HB.out.mono HB2.out.size)
    have HBW := hid hbw
    have HXW := hid ((HB.out.block _ (Array.getElem?_eq_some_iff.1 HX2.out).1).trans HX2.out)
    by_cases hlt : j < zs.length
    case neg =>
      have ho2 := HO.out
      rw [List.take_of_length_le (by omega)] at ho2
      have HS := hid (sort_own HB.out.size (by simp; omega) HND.out ho2)
      clear hbw ho2
      go_wp2_with fail
      refine HS.out.mono ?_
      rintro e w3 ⟨rfl, ho3, hb3⟩
      have HP := hid (show NewI w (putAll [] (zs.map (namedF fs1))) (.returned v0) w3 from ⟨v0, rfl, ownsRow_monoI ho3 (by have := HWZ.out; omega), HBW.out.trans (hb3.mono (by have := HWZ.out; omega))⟩)
      clear ho3 hb3
      go_wp2_with fail
      go_ret
      exact HP.out
    case pos =>
      obtain ⟨bz, oz, rfl, hbz, hallz⟩ := H4Z.out (by omega)
      obtain ⟨nm, hnm⟩ : ∃ t, zs[j]? = some t := ⟨_, List.getElem?_eq_getElem hlt⟩
      have zz := (HB.out.cell (p := ⟨bz, oz + j, none⟩) hbz).trans (hallz j nm hnm).1
      have hfd := impl_findDef ds1 fs1 ads1 cds1 (some ⟨b, o, none⟩) cfs1 nm wr (HFL.out.below HBW.out)
      have hsn : (zs.take (j + 1)).map (namedF fs1) = (zs.take j).map (namedF fs1) ++ [namedF fs1 nm] := by rw [List.take_add_one, hnm]; simp
      have hll : ((zs.take j).map (namedF fs1)).length ≤ 8 := by simp; omega
      have hnb := namedF_bd fs1 nm
      generalize (zs.take j).map (namedF fs1) = xs at HO hsn hll
      generalize namedF fs1 nm = r at hfd hsn hnb
      have HFD := hid hfd
      have HSN := hid hsn
      have g0 := heap_cell HXW.out (j := 0) rfl
      have g1 := heap_cell HXW.out (j := 1) rfl
      clear hfd hsn hnm hallz H4Z hbw
      go_wp2_with fail
      refine HFD.out.mono ?_
      rintro e w3 ⟨rfl, hb3⟩
      have HB3 := hid (HB.out.trans (hb3.mono HB.out.size))
      have HO3 := hid (ownsRow.below HO.out hb3)
      clear hb3 zz g0 g1
      go_wp2_with (at_builtin; refine wpList_append_int rfl _ _ rfl w2.heap.size _ xs r ⟨w3.heap.size, 0, none⟩ rfl rfl (HO3.out.alloc _) (one_new _ _ _) ?c1 ?c2 ?_)
      case c1 => omega
      case c2 => have := HB3.out.size; simp; omega
      intro v4 w4 ho4 hg4
      have HO4 := hid (show w4.ownsRow w2.heap.size 2 1 v4 (xs ++ [r]).length ((xs ++ [r]).map (Value.int .i64)) by simpa using ho4)
      have HB4 := hid (own_nextI (HB3.out.alloc HB3.out.size _) (by have := HB3.out.size; simp; omega) (HO3.out.alloc _) hg4)
      clear ho4 hg4
      go_wp2_with fail
      go_roundw
      case rel => exact ⟨j + 1, v4, by omega, by go_num, rfl, hid (by rw [HSN.out]; exact HO4.out), HB4⟩
      case measure => simp [intOf]; omega
set_option maxRecDepth 100000 in
set_option maxHeartbeats 4000000 in
theorem impl_UsedDefs (ds1 : List Dat) (fs1 : List Df) (ads1 : Option Addr) (cds1 : Nat) (afs1 : Option Addr) (cfs1 : Nat) (k : Int) (w : World) (hM : Pg.bulk (Pg.mk ds1 fs1) ≤ 1048576) (hr : RdS w (Pg.d (Pg.mk ds1 fs1)) [.slice ads1 ds1.length cds1, .slice afs1 fs1.length cfs1]) :
    Calls Tryz.prog 9 #[.agg #[.slice ads1 ds1.length cds1, .slice afs1 fs1.length cfs1], .int .i64 k] w (GivesIns (usedN (.mk ds1 fs1) k) w) := by
  have hB := (Below.refl w.heap.size w).alloc (Nat.le_refl _) (.cells #[.slice ads1 ds1.length cds1, .slice afs1 fs1.length cfs1] 32)
  have hx := heap_alloc_new w (.cells #[.slice ads1 ds1.length cds1, .slice afs1 fs1.length cfs1] 32)
  have HX := hid hx
  have HB := hid hB
  have e0 := heap_cell hx (j := 0) rfl
  have e1 := heap_cell hx (j := 1) rfl
  have HC := hid (impl_CheckNames ds1 fs1 ads1 cds1 afs1 cfs1 _ hM (hr.below hB))
  have HR := hid hr
  have HM := hid hM
  clear hx hB hr hM
  by_cases hck : checkN (.mk ds1 fs1) = 0
  case neg =>
    have HE := hid (show usedN (.mk ds1 fs1) k = [] by rw [usedN, if_neg (fun h => hck h.1)])
    generalize checkN (.mk ds1 fs1) = r at HC hck
    have hg : (r != 0) = true := by simp [hck]
    clear hck
    go_enter Tryz.func9, Tryz.ntmps9
    go_wp2_with fail
    refine HC.out.mono ?_
    rintro e w1 ⟨rfl, hb⟩
    have HB1 := hid (HB.out.trans (hb.mono HB.out.size))
    clear hb e0 e1
    go_wp2_with fail
    go_ret
    rw [HE.out]
    exact GivesIns_none _ HB1.out
  case pos =>
    have HCK := hid hck
    rw [hck] at HC
    have HHD := hid (fun V => impl_hasDef ds1 fs1 ads1 cds1 afs1 cfs1 k V)
    clear hck
    by_cases hin : 0 ≤ k ∧ k < fs1.length
    case neg =>
      have HE := hid (show usedN (.mk ds1 fs1) k = [] by rw [usedN, if_neg (fun h => hin h.2)])
      have hq : (decide (0 ≤ k) && decide (k < (fs1.length : Int))) = false := by rw [← Bool.decide_and]; exact decide_eq_false hin
      rw [hq] at HHD
      clear hq hin
      go_enter Tryz.func9, Tryz.ntmps9
      go_wp2_with fail
      refine HC.out.mono ?_
      rintro e w1 ⟨rfl, hb⟩
      have HB1 := hid (HB.out.trans (hb.mono HB.out.size))
      have HX1 := hid (heap_liftu HX.out hb)
      clear hb e0 e1
      have f0 := heap_cell HX1.out (j := 0) rfl
      have f1 := heap_cell HX1.out (j := 1) rfl
      go_wp2_with fail
      refine (HHD.out _).mono ?_
      rintro e w2 ⟨rfl, hb⟩
      have HB2 := hid (HB1.out.trans (hb.mono HB1.out.size))
      clear hb f0 f1
      go_wp2_with fail
      go_ret
      rw [HE.out]
      exact GivesIns_none _ HB2.out
    case pos =>
      obtain ⟨kk, rfl⟩ : ∃ kk : Nat, k = (kk : Int) := ⟨k.toNat, by omega⟩
      have hkl : kk < fs1.length := by omega
      obtain ⟨t, ht⟩ : ∃ t, fs1[kk]? = some t := ⟨_, List.getElem?_eq_getElem hkl⟩
      obtain ⟨n3, ⟨tk3, tn3, tks3⟩, ⟨bk3, bu3, bn3, ⟨btk3, btn3, btks3⟩, bns3, bks3⟩⟩ := t
      have HE := hid (show usedN (.mk ds1 fs1) (kk : Int) = usedOf fs1 (Tm.mk bk3 bu3 bn3 (Ty.mk btk3 btn3 btks3) bns3 bks3) by rw [usedN, if_pos ⟨HCK.out, hin⟩, usedAt, Int.toNat_natCast, ht]; rfl)
      have HT := hid ht
      have hlf : fs1.length ≤ 1048576 := by have := prog_len (check_ok HCK.out).1; omega
      have hq : (decide (0 ≤ (kk : Int)) && decide ((kk : Int) < (fs1.length : Int))) = true := by rw [← Bool.decide_and]; exact decide_eq_true hin
      rw [hq] at HHD
      have HUB := hid (fun x (hx : x ∈ usedOf fs1 (Tm.mk bk3 bu3 bn3 (Ty.mk btk3 btn3 btks3) bns3 bks3)) => (⟨by have := usedOf_bd fs1 (Tm.mk bk3 bu3 bn3 (Ty.mk btk3 btn3 btks3) bns3 bks3) x hx; omega, by have := usedOf_bd fs1 (Tm.mk bk3 bu3 bn3 (Ty.mk btk3 btn3 btks3) bns3 bks3) x hx; omega⟩ : -9223372036854775808 ≤ x ∧ x ≤ 9223372036854775807))
      clear hq hin ht
      go_enter Tryz.func9, Tryz.ntmps9
      go_wp2_with fail
      refine HC.out.mono ?_
      rintro e w1 ⟨rfl, hb⟩
      have HB1 := hid (HB.out.trans (hb.mono HB.out.size))
      have HX1 := hid (heap_liftu HX.out hb)
      clear hb e0 e1
      have f0 := heap_cell HX1.out (j := 0) rfl
      have f1 := heap_cell HX1.out (j := 1) rfl
      go_wp2_with fail
      refine (HHD.out _).mono ?_
      rintro e w2 ⟨rfl, hb⟩
      have HB2 := hid (HB1.out.trans (hb.mono HB1.out.size))
      have HX2 := hid (heap_liftu HX1.out hb)
      clear hb f0 f1
      have g0 := heap_cell HX2.out (j := 0) rfl
      have g1 := heap_cell HX2.out (j := 1) rfl
      have HUS := hid (impl_Used ds1 fs1 ads1 cds1 afs1 cfs1 kk n3 tk3 tn3 tks3 bk3 bu3 bn3 btk3 btn3 btks3 bns3 bks3 w2 HM.out HT.out HCK.out (HR.out.below HB2.out))
      go_wp2_with fail
      refine HUS.out.mono ?_
      intro e w3 hnew
      have HG := hid (show GivesIns (usedN (.mk ds1 fs1) (kk : Int)) w e w3 by rw [HE.out]; exact GivesIns_new HB2.out hnew HUB.out)
      obtain ⟨v3, rfl, -⟩ := hnew
      clear g0 g1
      go_wp2_with fail
      go_ret
      exact HG.out
end Go.Proofs.YtgpefnlpbjnjbaaGreat

namespace Go.Proofs.YtgpefnlpbjnjbaaGreat
open Go.RowKit

/-- The last digit. -/
def dig8 (m : Nat) : UInt8 := UInt8.ofNat (48 + m % 10)
theorem dig8_toNat (m : Nat) : (dig8 m).toNat = 48 + m % 10 := by
  unfold dig8
  rw [UInt8.toNat_ofNat']
  omega
/-- The decimal digits of a number, before a text. -/
def mdig : Nat → Nat → ByteArray → ByteArray
  | 0, _, out => out
  | f + 1, k, out => if k = 0 then out else mdig f (k / 10) (⟨#[dig8 k]⟩ ++ out)
/-- The text of a mark. -/
def mtxt (k : Nat) : ByteArray := if k = 0 then ⟨#[109, 48]⟩ else ⟨#[109]⟩ ++ mdig k k ⟨#[]⟩
theorem mdig_size : ∀ (f k : Nat) (out : ByteArray), (mdig f k out).size ≤ f + out.size
  | 0, _, out => by simp [mdig]
  | f + 1, k, out => by
    unfold mdig
    split
    · omega
    · have := mdig_size f (k / 10) (⟨#[dig8 k]⟩ ++ out)
      rw [ByteArray.size_append] at this
      have h1 : (⟨#[dig8 k]⟩ : ByteArray).size = 1 := rfl
      omega
theorem mtxt_size (k : Nat) : (mtxt k).size ≤ k + 2 := by
  unfold mtxt
  split
  · have : (⟨#[109, 48]⟩ : ByteArray).size = 2 := rfl
    omega
  · have h := mdig_size k k ⟨#[]⟩
    rw [ByteArray.size_append]
    have h1 : (⟨#[109]⟩ : ByteArray).size = 1 := rfl
    have h2 : (⟨#[]⟩ : ByteArray).size = 0 := rfl
    omega

mutual
/-- How many marks a datum takes. -/
def D.num : D → Nat
  | .int _ => 1
  | .bool _ => 1
  | .str _ => 1
  | .list l => D.nums l
  | .struct l => D.nums l
def D.nums : List D → Nat
  | [] => 0
  | d :: l => D.num d + D.nums l
end
mutual
/-- A datum, marked from a number on. -/
def D.mark : Nat → D → D
  | k, .int _ => .int k
  | k, .bool _ => .bool (k % 3 == 0)
  | k, .str _ => .str (mtxt k)
  | k, .list l => .list (D.marks k l)
  | k, .struct l => .struct (D.marks k l)
def D.marks : Nat → List D → List D
  | _, [] => []
  | k, d :: l => D.mark k d :: D.marks (k + D.num d) l
end
mutual
/-- The leaves of a datum: one a cell. -/
def D.flat : D → List D
  | .int n => [.int n]
  | .bool b => [.bool b]
  | .str s => [.str s]
  | .list l => [.list l]
  | .struct l => D.flats l
def D.flats : List D → List D
  | [] => []
  | d :: l => D.flat d ++ D.flats l
end
theorem D.nums_append : ∀ (a b : List D), D.nums (a ++ b) = D.nums a + D.nums b
  | [], b => by simp [D.nums]
  | d :: a, b => by simp [D.nums, D.nums_append a b]; omega
theorem D.marks_append : ∀ (a b : List D) (k : Nat), D.marks k (a ++ b) = D.marks k a ++ D.marks (k + D.nums a) b
  | [], b, k => by simp [D.marks, D.nums]
  | d :: a, b, k => by simp only [List.cons_append, D.marks, D.nums, D.marks_append a b (k + D.num d)]; rw [Nat.add_assoc]
theorem D.marks_length : ∀ (a : List D) (k : Nat), (D.marks k a).length = a.length
  | [], k => rfl
  | d :: a, k => by simp [D.marks, D.marks_length a]
theorem D.marks_get : ∀ (L : List D) (k p : Nat) (d : D), L[p]? = some d → (D.marks k L)[p]? = some (D.mark (k + D.nums (L.take p)) d)
  | [], k, p, d, h => by simp at h
  | x :: L, k, 0, d, h => by simp at h; subst h; simp [D.marks, D.nums]
  | x :: L, k, p + 1, d, h => by
    rw [D.marks, List.getElem?_cons_succ, D.marks_get L (k + D.num x) p d (by simpa using h), List.take_succ_cons, D.nums, Nat.add_assoc]
theorem D.nums_take (L : List D) (p : Nat) (d : D) (h : L[p]? = some d) : D.nums (L.take (p + 1)) = D.nums (L.take p) + D.num d := by
  rw [List.take_add_one, h, D.nums_append]; simp [D.nums]
theorem D.nums_take_le : ∀ (L : List D) (p : Nat), D.nums (L.take p) ≤ D.nums L
  | [], p => by simp
  | x :: L, 0 => by simp [D.nums]
  | x :: L, p + 1 => by have := D.nums_take_le L p; simp [D.nums]; omega
mutual
theorem D.flat_num : ∀ d : D, D.nums (D.flat d) = D.num d
  | .int _ => rfl
  | .bool _ => rfl
  | .str _ => rfl
  | .list l => by simp [D.flat, D.nums]
  | .struct l => by rw [D.flat, D.flats_num l, D.num]
theorem D.flats_num : ∀ l : List D, D.nums (D.flats l) = D.nums l
  | [] => rfl
  | d :: l => by rw [D.flats, D.nums_append, D.flat_num d, D.flats_num l, D.nums]
end
mutual
theorem D.flat_mark : ∀ (d : D) (k : Nat), D.flat (D.mark k d) = D.marks k (D.flat d)
  | .int _, k => by simp [D.mark, D.flat, D.marks]
  | .bool _, k => by simp [D.mark, D.flat, D.marks]
  | .str _, k => by simp [D.mark, D.flat, D.marks]
  | .list l, k => by simp [D.mark, D.flat, D.marks]
  | .struct l, k => by rw [D.mark, D.flat, D.flat, D.flats_mark l k]
theorem D.flats_mark : ∀ (l : List D) (k : Nat), D.flats (D.marks k l) = D.marks k (D.flats l)
  | [], k => by simp [D.marks, D.flats]
  | d :: l, k => by rw [D.marks, D.flats, D.flat_mark d k, D.flats_mark l (k + D.num d), D.flats, D.marks_append, D.flat_num]
end
mutual
theorem D.flat_len : ∀ (d : D), ∀ x ∈ D.flat d, x.len = 1
  | .int _, x, h => by simp [D.flat] at h; subst h; rfl
  | .bool _, x, h => by simp [D.flat] at h; subst h; rfl
  | .str _, x, h => by simp [D.flat] at h; subst h; rfl
  | .list l, x, h => by simp [D.flat] at h; subst h; rfl
  | .struct l, x, h => D.flats_len l x (by rw [D.flat] at h; exact h)
theorem D.flats_len : ∀ (l : List D), ∀ x ∈ D.flats l, x.len = 1
  | [], x, h => by simp [D.flats] at h
  | d :: l, x, h => by
    rw [D.flats] at h
    rcases List.mem_append.1 h with h | h
    · exact D.flat_len d x h
    · exact D.flats_len l x h
end
mutual
theorem D.flat_length : ∀ d : D, (D.flat d).length = D.len d
  | .int _ => rfl
  | .bool _ => rfl
  | .str _ => rfl
  | .list _ => rfl
  | .struct l => by rw [D.flat, D.flats_length l, D.len]
theorem D.flats_length : ∀ l : List D, (D.flats l).length = D.lens l
  | [] => rfl
  | d :: l => by rw [D.flats, List.length_append, D.flat_length d, D.flats_length l, D.lens]
end
theorem D.flats_get {m : Nat} : ∀ (l : List D) (j i : Nat) (d x : D), (∀ y ∈ l, y.len = m) → l[j]? = some d → (D.flat d)[i]? = some x → (D.flats l)[j * m + i]? = some x
  | [], j, i, d, x, _, h, _ => by simp at h
  | y :: l, 0, i, d, x, hm, h, hx => by
    simp at h; subst h
    rw [D.flats, Nat.zero_mul, Nat.zero_add, List.getElem?_append_left (List.getElem?_eq_some_iff.1 hx).1]; exact hx
  | y :: l, j + 1, i, d, x, hm, h, hx => by
    have e := D.flats_get l j i d x (fun z hz => hm z (by simp [hz])) (by simpa using h) hx
    have hl : (D.flat y).length = m := by rw [D.flat_length]; exact hm y (by simp)
    rw [D.flats, List.getElem?_append_right (by rw [hl, Nat.succ_mul]; omega), hl, show (j + 1) * m + i - m = j * m + i by rw [Nat.succ_mul]; omega]; exact e

theorem RdAll.append_inv {w : World} : ∀ (ds es : List D) {xs : List Value} {F : List Nat}, RdAll w (ds ++ es) xs F → ∃ x1 x2 F1 F2, xs = x1 ++ x2 ∧ F = F1 ++ F2 ∧ RdAll w ds x1 F1 ∧ RdAll w es x2 F2
  | [], es, xs, F, h => ⟨[], xs, [], F, rfl, rfl, RdAll.nil, h⟩
  | d :: ds, es, xs, F, h => by
    obtain ⟨c1, c2, F1, F2, rfl, rfl, h1, h2⟩ := RdAll.cons_inv h
    obtain ⟨x1, x2, G1, G2, rfl, rfl, k1, k2⟩ := RdAll.append_inv ds es h2
    exact ⟨c1 ++ x1, x2, F1 ++ G1, G2, by simp, by simp, RdAll.cons h1 k1, k2⟩
theorem RdAll.one_inv {w : World} {d : D} {cs : List Value} {F : List Nat} (h : RdAll w [d] cs F) : Rd w d cs F := by
  obtain ⟨c1, c2, F1, F2, rfl, rfl, h1, h2⟩ := RdAll.cons_inv h
  obtain ⟨rfl, rfl⟩ := RdAll.nil_inv h2
  simpa using h1
mutual
theorem Rd.flat {w : World} : ∀ (d : D) (cs : List Value) (F : List Nat), Rd w d cs F → RdAll w (D.flat d) cs F
  | .int _, _, _, h => RdAll.one h
  | .bool _, _, _, h => RdAll.one h
  | .str _, _, _, h => RdAll.one h
  | .list _, _, _, h => RdAll.one h
  | .struct l, cs, F, h => RdAll.flats l cs F h.struct_inv
theorem RdAll.flats {w : World} : ∀ (l : List D) (cs : List Value) (F : List Nat), RdAll w l cs F → RdAll w (D.flats l) cs F
  | [], cs, F, h => h
  | d :: l, cs, F, h => by
    obtain ⟨c1, c2, F1, F2, rfl, rfl, h1, h2⟩ := RdAll.cons_inv h
    exact (Rd.flat d c1 F1 h1).append (RdAll.flats l c2 F2 h2)
end
mutual
theorem Rd.unflat {w : World} : ∀ (d : D) (cs : List Value) (F : List Nat), RdAll w (D.flat d) cs F → Rd w d cs F
  | .int _, _, _, h => RdAll.one_inv h
  | .bool _, _, _, h => RdAll.one_inv h
  | .str _, _, _, h => RdAll.one_inv h
  | .list _, _, _, h => RdAll.one_inv h
  | .struct l, cs, F, h => Rd.struct_mk (RdAll.unflats l cs F h)
theorem RdAll.unflats {w : World} : ∀ (l : List D) (cs : List Value) (F : List Nat), RdAll w (D.flats l) cs F → RdAll w l cs F
  | [], cs, F, h => h
  | d :: l, cs, F, h => by
    obtain ⟨x1, x2, F1, F2, rfl, rfl, h1, h2⟩ := RdAll.append_inv (D.flat d) (D.flats l) h
    exact RdAll.cons (Rd.unflat d x1 F1 h1) (RdAll.unflats l x2 F2 h2)
end

/-- The list, its first p leaves marked. -/
def D.upTo (k : Nat) (L : List D) (p : Nat) : List D := D.marks k (L.take p) ++ L.drop p
theorem D.upTo_zero (k : Nat) (L : List D) : D.upTo k L 0 = L := by simp [D.upTo, D.marks]
theorem D.upTo_full (k : Nat) (L : List D) : D.upTo k L L.length = D.marks k L := by simp [D.upTo]
theorem D.upTo_get (k : Nat) (L : List D) (p : Nat) (d : D) (h : L[p]? = some d) : (D.upTo k L p)[p]? = some d := by
  have hp : p < L.length := (List.getElem?_eq_some_iff.1 h).1
  have hl : (D.marks k (L.take p)).length = p := by rw [D.marks_length, List.length_take]; omega
  rw [D.upTo, List.getElem?_append_right (by omega), hl, Nat.sub_self, List.getElem?_drop]; simpa using h
theorem D.upTo_succ (k : Nat) (L : List D) (p : Nat) (d : D) (h : L[p]? = some d) : D.upTo k L (p + 1) = (D.upTo k L p).set p (D.mark (k + D.nums (L.take p)) d) := by
  have hp : p < L.length := (List.getElem?_eq_some_iff.1 h).1
  have hl : (D.marks k (L.take p)).length = p := by rw [D.marks_length, List.length_take]; omega
  have hd : L.drop p = d :: L.drop (p + 1) := by rw [List.drop_eq_getElem_cons hp, (List.getElem?_eq_some_iff.1 h).2]
  rw [D.upTo, D.upTo, List.take_add_one, h, D.marks_append, hd, List.set_append_right _ _ (by omega), hl, Nat.sub_self]
  simp [D.marks]
theorem D.mark_len : ∀ (d : D) (k : Nat), d.len = 1 → (∀ l, d ≠ .struct l) → (D.mark k d).len = 1
  | .int _, k, _, _ => by simp [D.mark, D.len]
  | .bool _, k, _, _ => by simp [D.mark, D.len]
  | .str _, k, _, _ => by simp [D.mark, D.len]
  | .list _, k, _, _ => by simp [D.mark, D.len]
  | .struct l, k, _, h => absurd rfl (h l)

theorem RdAll.splits {w : World} : ∀ (L : List D) (p : Nat) (d : D) {xs : List Value} {F : List Nat}, RdAll w L xs F → (∀ x ∈ L, x.len = 1) → L[p]? = some d →
    ∃ v F1 F2 F3, xs[p]? = some v ∧ F = F1 ++ (F2 ++ F3) ∧ Rd w d [v] F2 ∧ ∀ w' d' v', (∀ x ∈ F1, w'.heap[x]? = w.heap[x]?) → (∀ x ∈ F3, w'.heap[x]? = w.heap[x]?) → Rd w' d' [v'] F2 → RdAll w' (L.set p d') (xs.set p v') F
  | [], p, d, xs, F, _, _, h => by simp at h
  | y :: L, p, d, xs, F, hr, hl, h => by
    obtain ⟨c1, c2, F1, F2, rfl, rfl, h1, h2⟩ := RdAll.cons_inv hr
    have e1 : c1.length = 1 := by rw [h1.length]; exact hl y (by simp)
    obtain ⟨v, rfl⟩ : ∃ v, c1 = [v] := List.length_eq_one_iff.1 e1
    rcases p with _ | p
    · simp at h; subst h
      refine ⟨v, [], F1, F2, rfl, rfl, h1, fun w' d' v' _ k2 k3 => ?_⟩
      simpa using RdAll.cons k3 (h2.keep k2)
    · obtain ⟨v2, G1, G2, G3, k1, rfl, k2, k3⟩ := RdAll.splits L p d h2 (fun x hx => hl x (by simp [hx])) (by simpa using h)
      refine ⟨v2, F1 ++ G1, G2, G3, by simpa using k1, by simp, k2, fun w' d' v' m1 m2 m3 => ?_⟩
      have := k3 w' d' v' (fun x hx => m1 x (by simp [hx])) m2 m3
      have t := RdAll.cons (h1.keep fun x hx => m1 x (by simp [hx])) this
      simpa using t

/-- What a marking keeps: every block but these, and these stay rows. -/
def Mk (F : List Nat) (w w' : World) : Prop := w'.os = w.os ∧ w'.tape = w.tape ∧ w'.output = w.output ∧ w.heap.size ≤ w'.heap.size ∧ (∀ b, b < w.heap.size → b ∉ F → w'.heap[b]? = w.heap[b]?) ∧
  (∀ b cur e, b ∈ F → w.heap[b]? = some (.cells cur e (0, 0)) → ∃ cur', w'.heap[b]? = some (.cells cur' e (0, 0)))
theorem Mk.of_below {F : List Nat} {w w' : World} (h : Below w.heap.size w w') : Mk F w w' :=
  ⟨h.os, h.tape, h.output, h.size, fun b hb _ => h.block b hb, fun b cur e _ hc => ⟨cur, by rw [h.block b (Array.getElem?_eq_some_iff.1 hc).1]; exact hc⟩⟩
theorem Mk.refl (F : List Nat) (w : World) : Mk F w w := Mk.of_below (Below.refl _ _)
theorem Mk.trans {F : List Nat} {a b c : World} (h : Mk F a b) (k : Mk F b c) : Mk F a c :=
  ⟨k.1.trans h.1, k.2.1.trans h.2.1, k.2.2.1.trans h.2.2.1, Nat.le_trans h.2.2.2.1 k.2.2.2.1, fun x hx hn => (k.2.2.2.2.1 x (Nat.lt_of_lt_of_le hx h.2.2.2.1) hn).trans (h.2.2.2.2.1 x hx hn),
    fun x cur e hx hc => by obtain ⟨c2, h2⟩ := h.2.2.2.2.2 x cur e hx hc; exact k.2.2.2.2.2 x c2 e hx h2⟩
theorem Mk.mono {F G : List Nat} {a b : World} (h : Mk G a b) (hs : ∀ x ∈ G, x ∈ F) : Mk F a b :=
  ⟨h.1, h.2.1, h.2.2.1, h.2.2.2.1, fun x hx hn => h.2.2.2.2.1 x hx fun hg => hn (hs x hg), fun x cur e hx hc => by
    by_cases hg : x ∈ G
    · exact h.2.2.2.2.2 x cur e hg hc
    · exact ⟨cur, by rw [h.2.2.2.2.1 x (Array.getElem?_eq_some_iff.1 hc).1 hg]; exact hc⟩⟩
theorem Mk.set {F : List Nat} {w : World} {b o : Nat} (v : Value) (hb : b ∈ F) : Mk F w (w.setCell ⟨b, o, none⟩ v) :=
  ⟨rfl, rfl, rfl, by simp [World.setCell], fun x _ hn => Below.heap_setCell w ⟨b, o, none⟩ v x (fun e => hn (by subst e; exact hb)), fun x cur e hx hc => by
    by_cases he : x = b
    · subst he; exact ⟨_, heap_setCell_at w x o v hc⟩
    · exact ⟨cur, by rw [Below.heap_setCell w ⟨b, o, none⟩ v x he]; exact hc⟩⟩
theorem Mk.below {F : List Nat} {B : Nat} {a w w' : World} (h : Below B a w) (k : Mk F w w') (hF : ∀ x ∈ F, B ≤ x) (hB : B ≤ w.heap.size) : Below B a w' :=
  ⟨k.1.trans h.os, k.2.1.trans h.tape, k.2.2.1.trans h.output, Nat.le_trans h.size k.2.2.2.1, fun x hx => (k.2.2.2.2.1 x (Nat.lt_of_lt_of_le hx hB) fun hm => by have := hF x hm; omega).trans (h.block x hx)⟩
theorem Mk.rd {F : List Nat} {w w' : World} {d : D} {cs : List Value} {G : List Nat} (k : Mk F w w') (h : Rd w d cs G) (hd : ∀ x ∈ G, x ∉ F) : Rd w' d cs G := h.keep fun x hx => k.2.2.2.2.1 x (h.lt x hx) (hd x hx)
theorem Mk.own {F : List Nat} {w w' : World} {base : Nat} {G : List Nat} (k : Mk F w w') (h : Owned w base G) : Owned w' base G :=
  ⟨h.1, fun b hb => ⟨(h.2 b hb).1, by
    obtain ⟨cur, e, hc⟩ := (h.2 b hb).2
    by_cases hf : b ∈ F
    · obtain ⟨c2, h2⟩ := k.2.2.2.2.2 b cur e hf hc; exact ⟨c2, e, h2⟩
    · exact ⟨cur, e, by rw [k.2.2.2.2.1 b (Array.getElem?_eq_some_iff.1 hc).1 hf]; exact hc⟩⟩⟩

theorem set_same {α : Type} : ∀ (l : List α) (p : Nat) (v : α), l[p]? = some v → l.set p v = l
  | [], p, v, h => by simp at h
  | x :: l, 0, v, h => by simp at h; subst h; rfl
  | x :: l, p + 1, v, h => by rw [List.set_cons_succ, set_same l p v (by simpa using h)]
theorem cell_set_ne {w : World} {b q p : Nat} {v : Value} (h : q ≠ p) : (w.setCell ⟨b, q, none⟩ v).cell? ⟨b, p, none⟩ = w.cell? ⟨b, p, none⟩ := by
  cases hb : w.heap[b]? with
  | none => simp [World.cell?, World.setCell, Array.getElem?_modify, hb]
  | some x =>
    cases x <;> simp [World.cell?, World.setCell, Array.getElem?_modify, hb, Array.getElem?_setIfInBounds_ne h]
/-- A row of leaves, the call's own, as it is now. -/
def RowSt (w : World) (b o : Nat) (L : List D) (F : List Nat) : Prop := ∃ (xs : List Value), Cells w b o xs ∧ RdAll w L xs F ∧ Owned w 0 (b :: F)
theorem RowSt.below {w w' : World} {b o : Nat} {L : List D} {F : List Nat} (h : RowSt w b o L F) (hb : Below w.heap.size w w') : RowSt w' b o L F := by
  obtain ⟨xs, h1, h2, h3⟩ := h
  have hl := h3.lt
  exact ⟨xs, h1.keep (hb.block b (hl b (by simp))), h2.below hb, h3.keep fun x hx => hb.block x (hl x hx)⟩
theorem RowSt.scalar {w : World} {b o p : Nat} {L : List D} {F : List Nat} {d : D} (h : RowSt w b o L F) (hl : ∀ x ∈ L, x.len = 1) (hp : L[p]? = some d) (hs : ∀ w v G, Rd w d [v] G → G = []) :
    (∃ v, w.cell? ⟨b, o + p, none⟩ = some v ∧ Rd w d [v] []) ∧ w.frozen? ⟨b, o + p, none⟩ = false ∧ ∀ d' v', (∀ w, Rd w d' [v'] []) → RowSt (w.setCell ⟨b, o + p, none⟩ v') b o (L.set p d') F := by
  obtain ⟨xs, h1, h2, h3⟩ := h
  obtain ⟨v, F1, F2, F3, k1, rfl, k2, k3⟩ := RdAll.splits L p d h2 hl hp
  obtain rfl := hs _ _ _ k2
  obtain ⟨cur, e, hc⟩ := (h3.2 b (by simp)).2
  have hcell := h1 p v k1
  refine ⟨⟨v, hcell, k2⟩, by simp [World.frozen?, hc], fun d' v' hd => ?_⟩
  have hne : ∀ x ∈ F1 ++ ([] ++ F3), x ≠ b := fun x hx e => by subst e; exact (List.nodup_cons.1 h3.1).1 hx
  have hk : ∀ x, x ≠ b → (w.setCell ⟨b, o + p, none⟩ v').heap[x]? = w.heap[x]? := fun x hx => Below.heap_setCell w ⟨b, o + p, none⟩ v' x hx
  refine ⟨xs.set p v', fun j u hj => ?_, k3 _ d' v' (fun x hx => hk x (hne x (by simp [hx]))) (fun x hx => hk x (hne x (by simp [hx]))) (hd _), ?_⟩
  · have hb2 := heap_setCell_at w b (o + p) v' hc
    by_cases hjp : j = p
    · subst hjp
      have hlt : j < xs.length := (List.getElem?_eq_some_iff.1 k1).1
      rw [List.getElem?_set_self hlt] at hj
      obtain rfl := Option.some.inj hj
      simp only [World.cell?, hb2]
      have hsz : o + j < cur.size := by
        simp only [World.cell?, hc] at hcell
        exact (Array.getElem?_eq_some_iff.1 (by simpa using hcell)).1
      simp [hsz]
    · rw [List.getElem?_set_ne (by omega)] at hj
      have := h1 j u hj
      simp only [World.cell?, hc] at this
      simp only [World.cell?, hb2]
      rw [Array.getElem?_setIfInBounds_ne (by omega)]
      simpa using this
  · refine ⟨h3.1, fun x hx => ⟨Nat.zero_le _, ?_⟩⟩
    by_cases hxb : x = b
    · subst hxb; exact ⟨_, e, heap_setCell_at w x (o + p) v' hc⟩
    · rw [hk x hxb]; exact (h3.2 x hx).2
theorem RowSt.list {w : World} {b o p : Nat} {L : List D} {F : List Nat} {ds : List D} (h : RowSt w b o L F) (hl : ∀ x ∈ L, x.len = 1) (hp : L[p]? = some (.list ds)) :
    ∃ v G, w.cell? ⟨b, o + p, none⟩ = some v ∧ Rd w (.list ds) [v] G ∧ Owned w 0 G ∧ (∀ x ∈ G, x ∈ F) ∧ ∀ w' ds', Mk G w w' → Rd w' (.list ds') [v] G → RowSt w' b o (L.set p (.list ds')) F := by
  obtain ⟨xs, h1, h2, h3⟩ := h
  obtain ⟨v, F1, F2, F3, k1, rfl, k2, k3⟩ := RdAll.splits L p _ h2 hl hp
  have hnd := List.nodup_cons.1 h3.1
  have hn2 := List.nodup_append.1 hnd.2
  have hn3 := List.nodup_append.1 hn2.2.1
  have hlt := h3.lt
  refine ⟨v, F2, h1 p v k1, k2, ⟨hn3.1, fun x hx => h3.2 x (by simp [hx])⟩, fun x hx => by simp [hx], fun w' ds' hm hr => ?_⟩
  have hb : b ∉ F2 := fun hx => hnd.1 (by simp [hx])
  have hkb := hm.2.2.2.2.1 b (hlt b (by simp)) hb
  refine ⟨xs, h1.keep hkb, ?_, hm.own h3⟩
  have := k3 w' (.list ds') v (fun x hx => hm.2.2.2.2.1 x (hlt x (by simp [hx])) fun hg => hn2.2.2 x hx x (by simp [hg]) rfl) (fun x hx => hm.2.2.2.2.1 x (hlt x (by simp [hx])) fun hg => hn3.2.2 x hg x hx rfl) hr
  rwa [set_same xs p v k1] at this

theorem Boxes.mk {F : List Nat} {w w' : World} {l : List (Nat × List Value)} (h : Boxes w l) (m : Mk F w w') (hd : ∀ p ∈ l, p.1 ∉ F) : Boxes w' l := fun i b cs hi => by
  have h0 := h i b cs hi
  refine ⟨Nat.lt_of_lt_of_le h0.1 m.2.2.2.1, fun j v hj => ?_⟩
  rw [← h0.2 j v hj]
  exact World.cell?_of_block (w := w) (m.2.2.2.2.1 b h0.1 (hd (b, cs) (List.mem_of_getElem? hi)))
/-- The numbers from k on. -/
def iotaI : Nat → Nat → List Int
  | _, 0 => []
  | k, n + 1 => (k : Int) :: iotaI (k + 1) n
theorem iotaI_length : ∀ (n k : Nat), (iotaI k n).length = n
  | 0, _ => rfl
  | n + 1, k => by simp [iotaI, iotaI_length n]
theorem iotaI_get : ∀ (n k j : Nat), j < n → (iotaI k n)[j]? = some ((k + j : Nat) : Int)
  | 0, k, j, h => absurd h (by omega)
  | n + 1, k, 0, _ => by simp [iotaI]
  | n + 1, k, j + 1, h => by rw [iotaI, List.getElem?_cons_succ, iotaI_get n (k + 1) j (by omega)]; congr 2; omega
theorem marks_In : ∀ (L : List Int) (k : Nat), D.marks k (In.ds L) = In.ds (iotaI k L.length)
  | [], _ => rfl
  | x :: L, k => by simp only [In.ds, In.d, D.marks, D.mark, D.num, List.length_cons, iotaI]; rw [marks_In L (k + 1)]
theorem nums_In : ∀ (L : List Int), D.nums (In.ds L) = L.length
  | [] => rfl
  | x :: L => by simp only [In.ds, In.d, D.nums, D.num, List.length_cons]; rw [nums_In L]; omega
theorem nums_Sr : ∀ (L : List ByteArray), D.nums (Sr.ds L) = L.length
  | [] => rfl
  | x :: L => by simp only [Sr.ds, Sr.d, D.nums, D.num, List.length_cons]; rw [nums_Sr L]; omega
theorem Owned.below {w w' : World} {base : Nat} {F : List Nat} (h : Owned w base F) (hb : Below w.heap.size w w') : Owned w' base F := h.keep fun x hx => hb.block x (h.lt x hx)
/-- A leaf: no struct. -/
def D.leaf : D → Prop
  | .struct _ => False
  | _ => True
theorem D.leaf_len {d : D} (h : D.leaf d) : d.len = 1 := by cases d <;> first | rfl | exact absurd h (by simp [D.leaf])
theorem D.leaf_mark {d : D} (k : Nat) (h : D.leaf d) : D.leaf (D.mark k d) := by cases d <;> simp [D.mark, D.leaf] at *
mutual
theorem D.flat_leaf : ∀ (d : D), ∀ x ∈ D.flat d, D.leaf x
  | .int _, x, h => by simp [D.flat] at h; subst h; trivial
  | .bool _, x, h => by simp [D.flat] at h; subst h; trivial
  | .str _, x, h => by simp [D.flat] at h; subst h; trivial
  | .list l, x, h => by simp [D.flat] at h; subst h; trivial
  | .struct l, x, h => D.flats_leaf l x (by rw [D.flat] at h; exact h)
theorem D.flats_leaf : ∀ (l : List D), ∀ x ∈ D.flats l, D.leaf x
  | [], x, h => by simp [D.flats] at h
  | d :: l, x, h => by
    rw [D.flats] at h
    rcases List.mem_append.1 h with h | h
    · exact D.flat_leaf d x h
    · exact D.flats_leaf l x h
end
theorem D.marks_leaf : ∀ (L : List D) (k : Nat), (∀ x ∈ L, D.leaf x) → ∀ x ∈ D.marks k L, D.leaf x
  | [], k, _, x, h => by simp [D.marks] at h
  | d :: L, k, hl, x, h => by
    rw [D.marks] at h
    rcases List.mem_cons.1 h with rfl | h
    · exact D.leaf_mark k (hl d (by simp))
    · exact D.marks_leaf L _ (fun y hy => hl y (by simp [hy])) x h
theorem D.upTo_len (k : Nat) (L : List D) (p : Nat) (hl : ∀ x ∈ L, D.leaf x) : ∀ x ∈ D.upTo k L p, x.len = 1 := by
  intro x hx
  rcases List.mem_append.1 hx with hx | hx
  · exact D.leaf_len (D.marks_leaf _ _ (fun y hy => hl y (List.mem_of_mem_take hy)) x hx)
  · exact D.leaf_len (hl x (List.mem_of_mem_drop hx))
/-- The row, its first p leaves marked. -/
def RowMk (k : Nat) (L : List D) (F : List Nat) (b o p : Nat) (w : World) : Prop := RowSt w b o (D.upTo k L p) F
theorem RowMk.start {k : Nat} {ds : List D} {F : List Nat} {b o : Nat} {w : World} {xs : List Value} (hx : Cells w b o xs) (hr : RdAll w ds xs F) (ho : Owned w 0 (b :: F)) : RowMk k (D.flats ds) F b o 0 w := by
  unfold RowMk
  rw [D.upTo_zero]
  exact ⟨xs, hx, RdAll.flats ds xs F hr, ho⟩
theorem RowMk.below {k : Nat} {L : List D} {F : List Nat} {b o p : Nat} {w w' : World} (h : RowMk k L F b o p w) (hb : Below w.heap.size w w') : RowMk k L F b o p w' := RowSt.below h hb
/-- A scalar that is to be marked next: its cell, and what a store there makes. -/
theorem RowMk.scalar {k : Nat} {L : List D} {F : List Nat} {b o p : Nat} {w : World} {d : D} (h : RowMk k L F b o p w) (hl : ∀ x ∈ L, D.leaf x) (hp : L[p]? = some d) (hs : ∀ w v G, Rd w d [v] G → G = []) :
    (∃ v, w.cell? ⟨b, o + p, none⟩ = some v) ∧ w.frozen? ⟨b, o + p, none⟩ = false ∧ ∀ v', (∀ w, Rd w (D.mark (k + D.nums (L.take p)) d) [v'] []) → RowMk k L F b o (p + 1) (w.setCell ⟨b, o + p, none⟩ v') := by
  obtain ⟨⟨v, h1, _⟩, h2, h3⟩ := RowSt.scalar h (D.upTo_len k L p hl) (D.upTo_get k L p d hp) hs
  refine ⟨⟨v, h1⟩, h2, fun v' hv => ?_⟩
  have := h3 _ v' hv
  unfold RowMk
  rwa [D.upTo_succ k L p d hp]
/-- A slice that is to be marked next. -/
theorem RowMk.list {k : Nat} {L : List D} {F : List Nat} {b o p : Nat} {w : World} {ds : List D} (h : RowMk k L F b o p w) (hl : ∀ x ∈ L, D.leaf x) (hp : L[p]? = some (.list ds)) :
    ∃ v G, w.cell? ⟨b, o + p, none⟩ = some v ∧ Rd w (.list ds) [v] G ∧ Owned w 0 G ∧ (∀ x ∈ G, x ∈ F) ∧ ∀ w', Mk G w w' → Rd w' (.list (D.marks (k + D.nums (L.take p)) ds)) [v] G → RowMk k L F b o (p + 1) w' := by
  obtain ⟨v, G, h1, h2, h3, h4, h5⟩ := RowSt.list h (D.upTo_len k L p hl) (D.upTo_get k L p _ hp)
  refine ⟨v, G, h1, h2, h3, h4, fun w' hm hr => ?_⟩
  have := h5 w' _ hm hr
  unfold RowMk
  rw [D.upTo_succ k L p _ hp]
  simpa [D.mark] using this
theorem D.upTo_later (k : Nat) (L : List D) (p q : Nat) (d : D) (hq : p ≤ q) (h : L[q]? = some d) : (D.upTo k L p)[q]? = some d := by
  have hp : q < L.length := (List.getElem?_eq_some_iff.1 h).1
  have hl : (D.marks k (L.take p)).length = p := by rw [D.marks_length, List.length_take]; omega
  rw [D.upTo, List.getElem?_append_right (by omega), hl, List.getElem?_drop, show p + (q - p) = q by omega]; exact h
/-- A leaf that is not marked yet. -/
theorem RowMk.peek {k : Nat} {L : List D} {F : List Nat} {b o p : Nat} {w : World} {d : D} (h : RowMk k L F b o p w) (hl : ∀ x ∈ L, D.leaf x) (q : Nat) (hq : p ≤ q) (hp : L[q]? = some d) :
    ∃ v G, w.cell? ⟨b, o + q, none⟩ = some v ∧ w.frozen? ⟨b, o + q, none⟩ = false ∧ Rd w d [v] G := by
  obtain ⟨xs, h1, h2, h3⟩ := h
  obtain ⟨v, F1, F2, F3, k1, rfl, k2, -⟩ := RdAll.splits (D.upTo k L p) q d h2 (D.upTo_len k L p hl) (D.upTo_later k L p q d hq hp)
  obtain ⟨cur, e, hc⟩ := (h3.2 b (by simp)).2
  exact ⟨v, F2, h1 q v k1, by simp [World.frozen?, hc], k2⟩
/-- The whole row is marked. -/
theorem RowMk.done {k : Nat} {ds : List D} {F : List Nat} {b o p n cap : Nat} {w : World} (h : RowMk k (D.flats ds) F b o p w) (hp : p = (D.flats ds).length) (hn : n = ds.length) (hne : ds ≠ []) (hl : n ≤ cap) (hc : cap ≤ 9223372036854775807) : Rd w (.list (D.marks k ds)) [.slice (some ⟨b, o, none⟩) n cap] (b :: F) := by
  subst hp hn
  obtain ⟨xs, h1, h2, h3⟩ := h
  rw [D.upTo_full, ← D.flats_mark] at h2
  have hne2 : D.marks k ds ≠ [] := fun e => hne (List.length_eq_zero_iff.1 (by rw [← D.marks_length ds k, e]; rfl))
  have := Rd.list_mk (cap := cap) hne2 (by rw [D.marks_length]; exact hl) hc (h3.lt b (by simp)) h1 (RdAll.unflats _ _ _ h2)
  rwa [D.marks_length] at this
/-- What a marking of a slice gives. -/
def MkPost (w : World) (v : Value) (F : List Nat) (k : Nat) (ds : List D) (e : Ending) (w' : World) : Prop := e = .returned (.int .i64 (k + D.nums ds : Nat)) ∧ Rd w' (.list (D.marks k ds)) [v] F ∧ Mk F w w'
theorem Rd.int_sc {n : Int} : ∀ w v G, Rd w (.int n) [v] G → G = [] := fun _ _ _ h => h.int_inv.2.1
theorem Rd.str_sc {s : ByteArray} : ∀ w v G, Rd w (.str s) [v] G → G = [] := fun _ _ _ h => h.str_inv.2.1
theorem Rd.bool_sc {b : Bool} : ∀ w v G, Rd w (.bool b) [v] G → G = [] := fun _ _ _ h => h.bool_inv.2
end Go.Proofs.YtgpefnlpbjnjbaaGreat

namespace Go.Proofs.YtgpefnlpbjnjbaaGreat
open Go.ChangeShapes Go.WideShapes Go.ChangeAt Go.RowKit
set_option linter.unusedVariables false

theorem one_new' (w : World) (a : Value) (t : TypeId) : (w.alloc (.cells #[a] t)).cell? ⟨w.heap.size, 0, none⟩ = some a := by
  have hh : (w.alloc (.cells #[a] t (0, 0))).heap[w.heap.size]? = some (.cells #[a] t (0, 0)) := heap_alloc_new w _
  simp only [World.cell?, hh]
  simp
theorem mdig_zero (f m : Nat) (out : ByteArray) (h : m = 0) : mdig f m out = out := by subst h; cases f <;> simp [mdig]
set_option maxRecDepth 100000 in
set_option maxHeartbeats 1000000 in
theorem mark_Text (k : Nat) (hk : k ≤ 1099511627776) (w : World) : Calls Tryz.prog 56 #[.int .i64 k] w fun e w' => e = .returned (.string (mtxt k)) ∧ Below w.heap.size w w' := by
  by_cases h0 : k = 0
  case pos =>
    subst h0
    go_enter Tryz.func56, Tryz.ntmps56
    go_wp2_with fail
    go_ret
    exact ⟨rfl, Below.refl _ _⟩
  case neg =>
  have g0 : decide (k = 0) = false := decide_eq_false h0
  have HF := hid (show mtxt k = ⟨#[109]⟩ ++ mdig k k ⟨#[]⟩ by rw [mtxt, if_neg h0])
  go_enter Tryz.func56, Tryz.ntmps56
  go_wp2_with fail
  go_loopw [0, 3] (fun i s wr => ∃ (f m : Nat) (out : ByteArray), m ≤ f ∧ out.size + m ≤ k ∧ i = .int .i64 m ∧ s = .string out ∧ Hid (mdig f m out = mdig k k ⟨#[]⟩) ∧ Below w.heap.size w wr) (fun i _ _ => (intOf i).toNat)
  case atStart => exact ⟨k, k, ⟨#[]⟩, by omega, by have : (⟨#[]⟩ : ByteArray).size = 0 := rfl; omega, rfl, rfl, rfl, Below.refl _ _⟩
  case round =>
    obtain ⟨f, m, out, hmf, hmk, rfl, rfl, HD, hb⟩ := hrel
    by_cases hm : 0 < m
    case neg =>
      have HE := hid (show out = mdig k k ⟨#[]⟩ from (mdig_zero f m out (by omega)).symm.trans HD.out)
      have hos : out.size ≤ 1099511627776 := by omega
      have gm : decide (0 < m) = false := decide_eq_false hm
      go_wp2_with fail
      go_ret
      exact ⟨by rw [HF.out, ← HE.out]; rfl, hb⟩
    case pos =>
      obtain ⟨f, rfl⟩ : ∃ f', f = f' + 1 := ⟨f - 1, by omega⟩
      have gm : decide (0 < m) = true := decide_eq_true hm
      have HE := hid (show mdig f (m / 10) (⟨#[dig8 m]⟩ ++ out) = mdig k k ⟨#[]⟩ by rw [← HD.out, mdig, if_neg (by omega)])
      have hc8 := dig8_toNat m
      have hcv : (convert 139 9 (.slice (some ⟨wr.heap.size, 0, none⟩) 1 1)).run Tryz.prog (wr.alloc (.cells #[.int .u8 (48 + (m : Int) % 10)] 5)) = .ok (.string ⟨#[dig8 m]⟩) (wr.alloc (.cells #[.int .u8 (48 + (m : Int) % 10)] 5)) :=
        run_convert_bytes_back (wr.alloc (.cells #[.int .u8 (48 + (m : Int) % 10)] 5)) 139 9 5 ⟨wr.heap.size, 0, none⟩ 1 [dig8 m] Tryz.underlying139 Tryz.underlying5 Tryz.underlying9 (fun j hj => by
          obtain rfl : j = 0 := by simpa using hj
          rw [show ([dig8 m][0]'hj).toNat = 48 + m % 10 from hc8]
          have := one_new' wr (.int .u8 (48 + (m : Int) % 10)) 5
          exact this)
      have hsz : ((⟨#[dig8 m]⟩ : ByteArray) ++ out).size = 1 + out.size := by rw [ByteArray.size_append]; rfl
      have hos : out.size ≤ 1099511627776 := by omega
      have HB1 := hid (hb.trans (((Below.refl wr.heap.size wr).alloc (Nat.le_refl _) (.cells #[.int .u8 (48 + (m : Int) % 10)] 5)).mono hb.size))
      go_wp2_with fail
      go_roundw
      case rel => exact ⟨f, m / 10, _, by omega, by rw [hsz]; omega, by go_num, rfl, HE, HB1.out⟩
      case measure => simp [intOf]; omega
end Go.Proofs.YtgpefnlpbjnjbaaGreat

namespace Go.Proofs.YtgpefnlpbjnjbaaGreat
open Go.ChangeShapes Go.WideShapes Go.ChangeAt Go.RowKit
set_option linter.unusedVariables false

theorem lens_In : ∀ ts : List Int, D.lens (In.ds ts) = ts.length
  | [] => rfl
  | t :: ts => by simp [In.ds, In.d, D.lens, D.len, lens_In ts]; omega
theorem dlen_In : ∀ (ts : List Int), ∀ y ∈ In.ds ts, y.len = 1
  | [], y, h => by simp [In.ds] at h
  | t :: ts, y, h => by
    simp only [In.ds, List.mem_cons] at h
    rcases h with rfl | h
    · rfl
    · exact dlen_In ts y h
set_option maxRecDepth 100000 in
set_option maxHeartbeats 4000000 in
theorem markIns (ts : List Int) (a : Option Addr) (c : Nat) (F : List Nat) (k : Nat) (w : World) (hlen : ts.length ≤ 9223372036854775807) (hk : k + D.nums (In.ds ts) ≤ 1099511627776) (hr : Rd w (.list (In.ds ts)) [.slice a ts.length c] F) (ho : Owned w 0 F) :
    Calls Tryz.prog 13 #[.slice a ts.length c, .int .i64 k] w (MkPost w (.slice a ts.length c) F k (In.ds ts)) := by
  have hdl := In.ds_length ts
  by_cases hne : ts = []
  case pos =>
    have HP := hid (show MkPost w (.slice a ts.length c) F k (In.ds ts) (.returned (.int .i64 k)) w by
      subst hne
      exact ⟨by simp [In.ds, D.nums], by simpa [In.ds, D.marks] using hr, Mk.refl _ _⟩)
    have hz : ts.length = 0 := by rw [hne]; rfl
    clear hr ho hk hdl hne
    go_enter Tryz.func13, Tryz.ntmps13
    go_wp2_with fail
    go_loopw [1, 5] (fun q i wr => ∃ (j : Nat), j = 0 ∧ i = .int .i64 j ∧ q = .int .i64 k ∧ w = wr) (fun _ i _ => 0)
    case atStart => exact ⟨0, rfl, rfl, rfl, rfl⟩
    case round =>
      obtain ⟨j, hj, rfl, rfl, rfl⟩ := hrel
      have hlt : ¬ j < ts.length := by omega
      go_wp2_with fail
      go_ret
      exact HP.out
  case neg =>
  have hdne : In.ds ts ≠ [] := fun e => hne (List.length_eq_zero_iff.1 (by rw [← hdl, e]; rfl))
  obtain ⟨a', cap', e, h2, h3, h4⟩ := hr.list_inv
  simp only [List.cons.injEq, Value.slice.injEq, and_true] at e
  obtain ⟨rfl, -, rfl⟩ := e
  rcases h4 with ⟨h, _⟩ | ⟨b, o, xs, F', _, rfl, rfl, hbl, hx, hr'⟩
  · exact absurd h hdne
  have HRW := hid (RowMk.start (k := k) hx hr' ho)
  have HDN := hid (fun p W (h : RowMk k (D.flats (In.ds ts)) F' b o p W) (hp : p = (D.flats (In.ds ts)).length) => h.done hp hdl.symm hdne (by omega) h3)
  have HFL := hid (show (D.flats (In.ds ts)).length = ts.length by rw [D.flats_length]; exact lens_In ts)
  have HNU := hid (D.flats_num (In.ds ts))
  have HLL := hid (D.flats_leaf (In.ds ts))
  have HGT := hid (fun j i d x h1 h2 => D.flats_get (m := 1) (In.ds ts) j i d x (fun y hy => dlen_In ts y hy) h1 h2)
  have HGE := hid (In.ds_get ts)
  generalize hL : D.flats (In.ds ts) = L at HRW HDN HFL HNU HLL HGT
  have HK := hid hk
  have HNE := hid hne
  clear hr ho hk hdl hne hdne hx hr' hL h2 hbl
  go_enter Tryz.func13, Tryz.ntmps13
  go_wp2_with fail
  go_loopw [1, 5] (fun q i wr => ∃ (j kk : Nat), j ≤ ts.length ∧ i = .int .i64 j ∧ q = .int .i64 kk ∧ Hid (k + D.nums (L.take (j)) = kk) ∧ Hid (RowMk k L F' b o (j) wr) ∧ Hid (Mk (b :: F') w wr)) (fun _ i _ => ts.length - (intOf i).toNat)
  case atStart => exact ⟨0, k, by omega, rfl, rfl, by simp [D.nums, Hid], by simpa [Hid] using HRW.out, Mk.refl _ _⟩
  case round =>
    obtain ⟨j, kk, hj, rfl, rfl, HE0, HS0, HM0⟩ := hrel
    have hkk : kk ≤ 1099511627776 := by have h1 := HE0.out; have h2 := D.nums_take_le L (j); have h3 := HNU.out; have h4 := HK.out; omega
    by_cases hlt : j < ts.length
    case neg =>
      have HP := hid (show MkPost w (.slice (some ⟨b, o, none⟩) ts.length c) (b :: F') k (In.ds ts) (.returned (.int .i64 kk)) wr by
        obtain rfl : j = ts.length := by omega
        refine ⟨?_, HDN.out _ _ HS0.out HFL.out.symm, HM0.out⟩
        have h1 := HE0.out
        rw [← HFL.out, List.take_length, HNU.out] at h1
        rw [h1])
      go_wp2_with fail
      go_ret
      exact HP.out
    case pos =>
      obtain ⟨t, ht⟩ : ∃ t, ts[j]? = some t := ⟨_, List.getElem?_eq_getElem hlt⟩
      obtain ⟨x3, rfl⟩ : ∃ x3, x3 = t := ⟨_, rfl⟩
      have hL0 : L[j]? = some (.int x3) := by have := HGT.out j 0 (.int x3) (.int x3) (by rw [HGE.out, ht]; rfl) rfl; simpa using this
      obtain ⟨v0, G0, c0, z0, r0⟩ := HS0.out.peek HLL.out j (by omega) hL0
      have c0' : wr.cell? ⟨b, o + j, none⟩ = some v0 := c0
      have z0' : wr.frozen? ⟨b, o + j, none⟩ = false := z0
      have hv0 : ∀ W, Rd W (D.mark (k + D.nums (L.take j)) (.int x3)) [.int .i64 ((kk : Int))] [] := fun W => by rw [HE0.out]; have := Rd.int_mk (w := W) (n := ((kk : Nat) : Int)) (by omega) (by omega); simpa [D.mark] using this
      have S1 : Hid (RowMk k L F' b o (j + 1) _) := hid ((HS0.out.scalar HLL.out hL0 Rd.int_sc).2.2 _ hv0)
      have M1 := hid (HM0.out.trans (Mk.set (o := o + j) (.int .i64 ((kk : Int))) (List.mem_cons_self)))
      have E1 := hid (show k + D.nums (L.take (j + 1)) = kk + 1 by have h1 : D.nums (L.take (j + 1)) = _ := D.nums_take L _ _ hL0; have h2 := HE0.out; have h3 : D.num (.int x3) = 1 := rfl; omega)
      have hb1 : kk + 1 ≤ 1099511627776 := by have h1 := E1.out; have h2 := D.nums_take_le L (j + 1); have h3 := HNU.out; have h4 := HK.out; omega
      go_wp2_with fail
      go_roundw
      case rel => exact ⟨j + 1, kk + 1, by omega, by go_num, by go_num, E1, S1, M1⟩
      case measure => simp [intOf]; omega
theorem lens_Sr : ∀ ts : List ByteArray, D.lens (Sr.ds ts) = ts.length
  | [] => rfl
  | t :: ts => by simp [Sr.ds, Sr.d, D.lens, D.len, lens_Sr ts]; omega
theorem dlen_Sr : ∀ (ts : List ByteArray), ∀ y ∈ Sr.ds ts, y.len = 1
  | [], y, h => by simp [Sr.ds] at h
  | t :: ts, y, h => by
    simp only [Sr.ds, List.mem_cons] at h
    rcases h with rfl | h
    · rfl
    · exact dlen_Sr ts y h
set_option maxRecDepth 100000 in
set_option maxHeartbeats 4000000 in
theorem markSrs (ts : List ByteArray) (a : Option Addr) (c : Nat) (F : List Nat) (k : Nat) (w : World) (hlen : ts.length ≤ 9223372036854775807) (hk : k + D.nums (Sr.ds ts) ≤ 1099511627776) (hr : Rd w (.list (Sr.ds ts)) [.slice a ts.length c] F) (ho : Owned w 0 F) :
    Calls Tryz.prog 59 #[.slice a ts.length c, .int .i64 k] w (MkPost w (.slice a ts.length c) F k (Sr.ds ts)) := by
  have hdl := Sr.ds_length ts
  by_cases hne : ts = []
  case pos =>
    have HP := hid (show MkPost w (.slice a ts.length c) F k (Sr.ds ts) (.returned (.int .i64 k)) w by
      subst hne
      exact ⟨by simp [Sr.ds, D.nums], by simpa [Sr.ds, D.marks] using hr, Mk.refl _ _⟩)
    have hz : ts.length = 0 := by rw [hne]; rfl
    clear hr ho hk hdl hne
    go_enter Tryz.func59, Tryz.ntmps59
    go_wp2_with fail
    go_loopw [1, 5] (fun q i wr => ∃ (j : Nat), j = 0 ∧ i = .int .i64 j ∧ q = .int .i64 k ∧ w = wr) (fun _ i _ => 0)
    case atStart => exact ⟨0, rfl, rfl, rfl, rfl⟩
    case round =>
      obtain ⟨j, hj, rfl, rfl, rfl⟩ := hrel
      have hlt : ¬ j < ts.length := by omega
      go_wp2_with fail
      go_ret
      exact HP.out
  case neg =>
  have hdne : Sr.ds ts ≠ [] := fun e => hne (List.length_eq_zero_iff.1 (by rw [← hdl, e]; rfl))
  obtain ⟨a', cap', e, h2, h3, h4⟩ := hr.list_inv
  simp only [List.cons.injEq, Value.slice.injEq, and_true] at e
  obtain ⟨rfl, -, rfl⟩ := e
  rcases h4 with ⟨h, _⟩ | ⟨b, o, xs, F', _, rfl, rfl, hbl, hx, hr'⟩
  · exact absurd h hdne
  have HRW := hid (RowMk.start (k := k) hx hr' ho)
  have HDN := hid (fun p W (h : RowMk k (D.flats (Sr.ds ts)) F' b o p W) (hp : p = (D.flats (Sr.ds ts)).length) => h.done hp hdl.symm hdne (by omega) h3)
  have HFL := hid (show (D.flats (Sr.ds ts)).length = ts.length by rw [D.flats_length]; exact lens_Sr ts)
  have HNU := hid (D.flats_num (Sr.ds ts))
  have HLL := hid (D.flats_leaf (Sr.ds ts))
  have HGT := hid (fun j i d x h1 h2 => D.flats_get (m := 1) (Sr.ds ts) j i d x (fun y hy => dlen_Sr ts y hy) h1 h2)
  have HGE := hid (Sr.ds_get ts)
  generalize hL : D.flats (Sr.ds ts) = L at HRW HDN HFL HNU HLL HGT
  have HK := hid hk
  have HNE := hid hne
  clear hr ho hk hdl hne hdne hx hr' hL h2 hbl
  go_enter Tryz.func59, Tryz.ntmps59
  go_wp2_with fail
  go_loopw [1, 5] (fun q i wr => ∃ (j kk : Nat), j ≤ ts.length ∧ i = .int .i64 j ∧ q = .int .i64 kk ∧ Hid (k + D.nums (L.take (j)) = kk) ∧ Hid (RowMk k L F' b o (j) wr) ∧ Hid (Mk (b :: F') w wr)) (fun _ i _ => ts.length - (intOf i).toNat)
  case atStart => exact ⟨0, k, by omega, rfl, rfl, by simp [D.nums, Hid], by simpa [Hid] using HRW.out, Mk.refl _ _⟩
  case round =>
    obtain ⟨j, kk, hj, rfl, rfl, HE0, HS0, HM0⟩ := hrel
    have hkk : kk ≤ 1099511627776 := by have h1 := HE0.out; have h2 := D.nums_take_le L (j); have h3 := HNU.out; have h4 := HK.out; omega
    by_cases hlt : j < ts.length
    case neg =>
      have HP := hid (show MkPost w (.slice (some ⟨b, o, none⟩) ts.length c) (b :: F') k (Sr.ds ts) (.returned (.int .i64 kk)) wr by
        obtain rfl : j = ts.length := by omega
        refine ⟨?_, HDN.out _ _ HS0.out HFL.out.symm, HM0.out⟩
        have h1 := HE0.out
        rw [← HFL.out, List.take_length, HNU.out] at h1
        rw [h1])
      go_wp2_with fail
      go_ret
      exact HP.out
    case pos =>
      obtain ⟨t, ht⟩ : ∃ t, ts[j]? = some t := ⟨_, List.getElem?_eq_getElem hlt⟩
      obtain ⟨x3, rfl⟩ : ∃ x3, x3 = t := ⟨_, rfl⟩
      have hL0 : L[j]? = some (.str x3) := by have := HGT.out j 0 (.str x3) (.str x3) (by rw [HGE.out, ht]; rfl) rfl; simpa using this
      have hT0 := fun W => mark_Text (kk) (by omega) W
      have HT0 := hid hT0
      clear hT0
      go_wp2_with fail
      refine (HT0.out _).mono ?_
      rintro e u0 ⟨rfl, hbb⟩
      have T0 := hid (HS0.out.below hbb)
      have N0 := hid (HM0.out.trans (Mk.of_below hbb))
      clear hbb
      obtain ⟨v0, G0, c0, z0, r0⟩ := T0.out.peek HLL.out j (by omega) hL0
      have c0' : u0.cell? ⟨b, o + j, none⟩ = some v0 := c0
      have z0' : u0.frozen? ⟨b, o + j, none⟩ = false := z0
      have hv0 : ∀ W, Rd W (D.mark (k + D.nums (L.take j)) (.str x3)) [.string (mtxt (kk))] [] := fun W => by rw [HE0.out]; have := Rd.str_mk (w := W) (s := mtxt (kk)) (by have := mtxt_size (kk); omega); simpa [D.mark] using this
      have S1 : Hid (RowMk k L F' b o (j + 1) _) := hid ((T0.out.scalar HLL.out hL0 Rd.str_sc).2.2 _ hv0)
      have M1 := hid (N0.out.trans (Mk.set (o := o + j) (.string (mtxt (kk))) (List.mem_cons_self)))
      have E1 := hid (show k + D.nums (L.take (j + 1)) = kk + 1 by have h1 : D.nums (L.take (j + 1)) = _ := D.nums_take L _ _ hL0; have h2 := HE0.out; have h3 : D.num (.str x3) = 1 := rfl; omega)
      have hb1 : kk + 1 ≤ 1099511627776 := by have h1 := E1.out; have h2 := D.nums_take_le L (j + 1); have h3 := HNU.out; have h4 := HK.out; omega
      go_wp2_with fail
      go_roundw
      case rel => exact ⟨j + 1, kk + 1, by omega, by go_num, by go_num, E1, S1, M1⟩
      case measure => simp [intOf]; omega
end Go.Proofs.YtgpefnlpbjnjbaaGreat

namespace Go.Proofs.YtgpefnlpbjnjbaaGreat
open Go.ChangeShapes Go.WideShapes Go.ChangeAt Go.RowKit
set_option linter.unusedVariables false

theorem lens_Ty : ∀ ts : List Ty, D.lens (Ty.ds ts) = ts.length * 3
  | [] => rfl
  | t :: ts => by simp [Ty.ds, D.lens, Ty.d_len, lens_Ty ts]; omega
def MkTyW (N : Nat) : Prop := ∀ (ts : List Ty) (a : Option Addr) (c : Nat) (F : List Nat) (k : Nat) (w : World), Ty.bulks ts < N → ts.length ≤ 9223372036854775807 → k + D.nums (Ty.ds ts) ≤ 1099511627776 → Rd w (.list (Ty.ds ts)) [.slice a ts.length c] F → Owned w 0 F → Calls Tryz.prog 58 #[.slice a ts.length c, .int .i64 k] w (MkPost w (.slice a ts.length c) F k (Ty.ds ts))
set_option maxRecDepth 100000 in
set_option maxHeartbeats 4000000 in
theorem markTys_step (N : Nat) (ih : MkTyW N) : MkTyW (N + 1) := by
  intro ts a c F k w hN hlen hk hr ho
  have hdl := Ty.ds_length ts
  by_cases hne : ts = []
  case pos =>
    have HP := hid (show MkPost w (.slice a ts.length c) F k (Ty.ds ts) (.returned (.int .i64 k)) w by
      subst hne
      exact ⟨by simp [Ty.ds, D.nums], by simpa [Ty.ds, D.marks] using hr, Mk.refl _ _⟩)
    have hz : ts.length = 0 := by rw [hne]; rfl
    clear hr ho hk hdl hne ih hN
    go_enter Tryz.func58, Tryz.ntmps58
    go_wp2_with fail
    go_loopw [1, 5] (fun q i wr => ∃ (j : Nat), j = 0 ∧ i = .int .i64 j ∧ q = .int .i64 k ∧ w = wr) (fun _ i _ => 0)
    case atStart => exact ⟨0, rfl, rfl, rfl, rfl⟩
    case round =>
      obtain ⟨j, hj, rfl, rfl, rfl⟩ := hrel
      have hlt : ¬ j < ts.length := by omega
      go_wp2_with fail
      go_ret
      exact HP.out
  case neg =>
  have hdne : Ty.ds ts ≠ [] := fun e => hne (List.length_eq_zero_iff.1 (by rw [← hdl, e]; rfl))
  obtain ⟨a', cap', e, h2, h3, h4⟩ := hr.list_inv
  simp only [List.cons.injEq, Value.slice.injEq, and_true] at e
  obtain ⟨rfl, -, rfl⟩ := e
  rcases h4 with ⟨h, _⟩ | ⟨b, o, xs, F', _, rfl, rfl, hbl, hx, hr'⟩
  · exact absurd h hdne
  have HRW := hid (RowMk.start (k := k) hx hr' ho)
  have HDN := hid (fun p W (h : RowMk k (D.flats (Ty.ds ts)) F' b o p W) (hp : p = (D.flats (Ty.ds ts)).length) => h.done hp hdl.symm hdne (by omega) h3)
  have HFL := hid (show (D.flats (Ty.ds ts)).length = ts.length * 3 by rw [D.flats_length]; exact lens_Ty ts)
  have HNU := hid (D.flats_num (Ty.ds ts))
  have HLL := hid (D.flats_leaf (Ty.ds ts))
  have HGT := hid (fun j i d x h1 h2 => D.flats_get (m := 3) (Ty.ds ts) j i d x (Ty.ds_len ts) h1 h2)
  have HGE := hid (Ty.ds_get ts)
  generalize hL : D.flats (Ty.ds ts) = L at HRW HDN HFL HNU HLL HGT
  have HK := hid hk
  have HNE := hid hne
  have IH := hid ih
  have HN := hid hN
  clear hr ho hk hdl hne hdne hx hr' hL h2 hbl ih hN
  go_enter Tryz.func58, Tryz.ntmps58
  go_wp2_with fail
  go_loopw [1, 5] (fun q i wr => ∃ (j kk : Nat), j ≤ ts.length ∧ i = .int .i64 j ∧ q = .int .i64 kk ∧ Hid (k + D.nums (L.take (j * 3)) = kk) ∧ Hid (RowMk k L F' b o (j * 3) wr) ∧ Hid (Mk (b :: F') w wr)) (fun _ i _ => ts.length - (intOf i).toNat)
  case atStart => exact ⟨0, k, by omega, rfl, rfl, by simp [D.nums, Hid], by simpa [Hid] using HRW.out, Mk.refl _ _⟩
  case round =>
    obtain ⟨j, kk, hj, rfl, rfl, HE0, HS0, HM0⟩ := hrel
    have hkk : kk ≤ 1099511627776 := by have h1 := HE0.out; have h2 := D.nums_take_le L (j * 3); have h3 := HNU.out; have h4 := HK.out; omega
    by_cases hlt : j < ts.length
    case neg =>
      have HP := hid (show MkPost w (.slice (some ⟨b, o, none⟩) ts.length c) (b :: F') k (Ty.ds ts) (.returned (.int .i64 kk)) wr by
        obtain rfl : j = ts.length := by omega
        refine ⟨?_, HDN.out _ _ HS0.out HFL.out.symm, HM0.out⟩
        have h1 := HE0.out
        rw [← HFL.out, List.take_length, HNU.out] at h1
        rw [h1])
      go_wp2_with fail
      go_ret
      exact HP.out
    case pos =>
      obtain ⟨t, ht⟩ : ∃ t, ts[j]? = some t := ⟨_, List.getElem?_eq_getElem hlt⟩
      obtain ⟨k3, n3, ks3⟩ := t
      have hL0 : L[j * 3]? = some (.int k3) := HGT.out j 0 (Ty.d (Ty.mk k3 n3 ks3)) (.int k3) (by rw [HGE.out, ht]; rfl) (by simp [Ty.d, D.flat, D.flats])
      have hL1 : L[j * 3 + 1]? = some (.str n3) := HGT.out j 1 (Ty.d (Ty.mk k3 n3 ks3)) (.str n3) (by rw [HGE.out, ht]; rfl) (by simp [Ty.d, D.flat, D.flats])
      have hL2 : L[j * 3 + 2]? = some (.list (Ty.ds ks3)) := HGT.out j 2 (Ty.d (Ty.mk k3 n3 ks3)) (.list (Ty.ds ks3)) (by rw [HGE.out, ht]; rfl) (by simp [Ty.d, D.flat, D.flats])
      obtain ⟨v0, G0, c0, z0, r0⟩ := HS0.out.peek HLL.out (j * 3) (by omega) hL0
      have c0' : wr.cell? ⟨b, o + j * 3, none⟩ = some v0 := c0
      have z0' : wr.frozen? ⟨b, o + j * 3, none⟩ = false := z0
      have hv0 : ∀ W, Rd W (D.mark (k + D.nums (L.take (j * 3))) (.int k3)) [.int .i64 ((kk : Int))] [] := fun W => by rw [HE0.out]; have := Rd.int_mk (w := W) (n := ((kk : Nat) : Int)) (by omega) (by omega); simpa [D.mark] using this
      have S1 : Hid (RowMk k L F' b o (j * 3 + 1) _) := hid ((HS0.out.scalar HLL.out hL0 Rd.int_sc).2.2 _ hv0)
      have M1 := hid (HM0.out.trans (Mk.set (o := o + (j * 3)) (.int .i64 ((kk : Int))) (List.mem_cons_self)))
      have E1 := hid (show k + D.nums (L.take (j * 3 + 1)) = kk + 1 by have h1 : D.nums (L.take (j * 3 + 1)) = _ := D.nums_take L _ _ hL0; have h2 := HE0.out; have h3 : D.num (.int k3) = 1 := rfl; omega)
      have hb1 : kk + 1 ≤ 1099511627776 := by have h1 := E1.out; have h2 := D.nums_take_le L (j * 3 + 1); have h3 := HNU.out; have h4 := HK.out; omega
      have hT1 := fun W => mark_Text (kk + 1) (by omega) W
      rw [show ((kk + 1 : Nat) : Int) = (kk : Int) + 1 from by omega] at hT1
      have HT1 := hid hT1
      clear hT1
      go_wp2_with fail
      refine (HT1.out _).mono ?_
      rintro e u1 ⟨rfl, hbb⟩
      have T1 := hid (S1.out.below hbb)
      have N1 := hid (M1.out.trans (Mk.of_below hbb))
      clear hbb c0' z0'
      obtain ⟨v1, G1, c1, z1, r1⟩ := T1.out.peek HLL.out (j * 3 + 1) (by omega) hL1
      have c1' : u1.cell? ⟨b, o + j * 3 + 1, none⟩ = some v1 := c1
      have z1' : u1.frozen? ⟨b, o + j * 3 + 1, none⟩ = false := z1
      have hv1 : ∀ W, Rd W (D.mark (k + D.nums (L.take (j * 3 + 1))) (.str n3)) [.string (mtxt (kk + 1))] [] := fun W => by rw [E1.out]; have := Rd.str_mk (w := W) (s := mtxt (kk + 1)) (by have := mtxt_size (kk + 1); omega); simpa [D.mark] using this
      have S2 : Hid (RowMk k L F' b o (j * 3 + 2) _) := hid ((T1.out.scalar HLL.out hL1 Rd.str_sc).2.2 _ hv1)
      have M2 := hid (N1.out.trans (Mk.set (o := o + (j * 3 + 1)) (.string (mtxt (kk + 1))) (List.mem_cons_self)))
      have E2 := hid (show k + D.nums (L.take (j * 3 + 2)) = kk + 1 + 1 by have h1 : D.nums (L.take (j * 3 + 2)) = _ := D.nums_take L _ _ hL1; have h2 := E1.out; have h3 : D.num (.str n3) = 1 := rfl; omega)
      have hb2 : kk + 1 + 1 ≤ 1099511627776 := by have h1 := E2.out; have h2 := D.nums_take_le L (j * 3 + 2); have h3 := HNU.out; have h4 := HK.out; omega
      obtain ⟨y2, G2', c2'', r2', o2', s2', set2⟩ := S2.out.list HLL.out hL2
      obtain ⟨a2, n2, ee2, h22, h32, -⟩ := r2'.list_inv
      simp only [List.cons.injEq, and_true, Ty.ds_length] at ee2 h22
      obtain rfl := ee2
      have c2' : u1.cell? ⟨b, o + j * 3 + 2, none⟩ = some (.slice a2 ks3.length n2) := by have h := c2''; rw [cell_set_ne (by omega)] at h; exact h
      obtain ⟨kx2, hkx2⟩ : ∃ kx, kx = kk + 1 + 1 + D.nums (Ty.ds ks3) := ⟨_, rfl⟩
      have E3 := hid (show k + D.nums (L.take (j * 3 + 3)) = kx2 by have h1 : D.nums (L.take (j * 3 + 3)) = _ := D.nums_take L _ _ hL2; have h2 := E2.out; have h3 : D.num (.list (Ty.ds ks3)) = D.nums (Ty.ds ks3) := (by rw [D.num]); omega)
      have hb3 : kx2 ≤ 1099511627776 := by have h1 := E3.out; have h2 := D.nums_take_le L (j * 3 + 3); have h3 := HNU.out; have h4 := HK.out; omega
      have hc2 := IH.out ks3 a2 n2 G2' (kk + 1 + 1) _ (by have h1 := Ty.bulk_get ts j _ ht; have h2 := HN.out; have h3 : Ty.bulks ks3 ≤ Ty.bulk (Ty.mk k3 n3 ks3) := (by simp only [Ty.bulk]; omega); omega) (by omega) (by omega) r2' o2'
      unfold MkPost at hc2
      rw [← hkx2] at hc2
      rw [show ((kk + 1 + 1 : Nat) : Int) = (kk : Int) + 1 + 1 from by omega] at hc2
      have HKX2 := hid hkx2
      clear hkx2
      have HC2 := hid hc2
      have HST2 := hid set2
      rw [E2.out] at HST2
      have HSU2 := hid s2'
      clear hc2 set2 s2' r2' o2' c2''
      go_wp2_with fail
      refine HC2.out.mono ?_
      rintro e u2 ⟨rfl, hrd, hmk⟩
      have S3 : Hid (RowMk k L F' b o (j * 3 + 3) _) := hid (HST2.out _ hmk hrd)
      have M3 := hid (M2.out.trans (hmk.mono fun x hx => List.mem_cons_of_mem _ (HSU2.out x hx)))
      clear hmk hrd HC2 HST2 c1' z1' c2'
      go_wp2_with fail
      go_roundw
      case rel => exact ⟨j + 1, kx2, by omega, by go_num, by go_num, by rw [Nat.succ_mul]; exact E3, by rw [Nat.succ_mul]; exact S3, M3⟩
      case measure => simp [intOf]; omega
theorem markTys_all : ∀ N, MkTyW N
  | 0 => fun _ _ _ _ _ _ h => absurd h (by omega)
  | N + 1 => markTys_step N (markTys_all N)
theorem markTys (ts : List Ty) (a : Option Addr) (c : Nat) (F : List Nat) (k : Nat) (w : World) (hlen : ts.length ≤ 9223372036854775807) (hk : k + D.nums (Ty.ds ts) ≤ 1099511627776) (hr : Rd w (.list (Ty.ds ts)) [.slice a ts.length c] F) (ho : Owned w 0 F) :
    Calls Tryz.prog 58 #[.slice a ts.length c, .int .i64 k] w (MkPost w (.slice a ts.length c) F k (Ty.ds ts)) :=
  markTys_all (Ty.bulks ts + 1) ts a c F k w (by omega) hlen hk hr ho
end Go.Proofs.YtgpefnlpbjnjbaaGreat

namespace Go.Proofs.YtgpefnlpbjnjbaaGreat
open Go.ChangeShapes Go.WideShapes Go.ChangeAt Go.RowKit
set_option linter.unusedVariables false

theorem lens_Tm : ∀ ts : List Tm, D.lens (Tm.ds ts) = ts.length * 8
  | [] => rfl
  | t :: ts => by simp [Tm.ds, D.lens, Tm.d_len, lens_Tm ts]; omega
def MkTmW (N : Nat) : Prop := ∀ (ts : List Tm) (a : Option Addr) (c : Nat) (F : List Nat) (k : Nat) (w : World), Tm.bulks ts < N → ts.length ≤ 9223372036854775807 → k + D.nums (Tm.ds ts) ≤ 1099511627776 → Rd w (.list (Tm.ds ts)) [.slice a ts.length c] F → Owned w 0 F → Calls Tryz.prog 60 #[.slice a ts.length c, .int .i64 k] w (MkPost w (.slice a ts.length c) F k (Tm.ds ts))
set_option maxRecDepth 100000 in
set_option maxHeartbeats 4000000 in
theorem markTms_step (N : Nat) (ih : MkTmW N) : MkTmW (N + 1) := by
  intro ts a c F k w hN hlen hk hr ho
  have hdl := Tm.ds_length ts
  by_cases hne : ts = []
  case pos =>
    have HP := hid (show MkPost w (.slice a ts.length c) F k (Tm.ds ts) (.returned (.int .i64 k)) w by
      subst hne
      exact ⟨by simp [Tm.ds, D.nums], by simpa [Tm.ds, D.marks] using hr, Mk.refl _ _⟩)
    have hz : ts.length = 0 := by rw [hne]; rfl
    clear hr ho hk hdl hne ih hN
    go_enter Tryz.func60, Tryz.ntmps60
    go_wp2_with fail
    go_loopw [1, 5] (fun q i wr => ∃ (j : Nat), j = 0 ∧ i = .int .i64 j ∧ q = .int .i64 k ∧ w = wr) (fun _ i _ => 0)
    case atStart => exact ⟨0, rfl, rfl, rfl, rfl⟩
    case round =>
      obtain ⟨j, hj, rfl, rfl, rfl⟩ := hrel
      have hlt : ¬ j < ts.length := by omega
      go_wp2_with fail
      go_ret
      exact HP.out
  case neg =>
  have hdne : Tm.ds ts ≠ [] := fun e => hne (List.length_eq_zero_iff.1 (by rw [← hdl, e]; rfl))
  obtain ⟨a', cap', e, h2, h3, h4⟩ := hr.list_inv
  simp only [List.cons.injEq, Value.slice.injEq, and_true] at e
  obtain ⟨rfl, -, rfl⟩ := e
  rcases h4 with ⟨h, _⟩ | ⟨b, o, xs, F', _, rfl, rfl, hbl, hx, hr'⟩
  · exact absurd h hdne
  have HRW := hid (RowMk.start (k := k) hx hr' ho)
  have HDN := hid (fun p W (h : RowMk k (D.flats (Tm.ds ts)) F' b o p W) (hp : p = (D.flats (Tm.ds ts)).length) => h.done hp hdl.symm hdne (by omega) h3)
  have HFL := hid (show (D.flats (Tm.ds ts)).length = ts.length * 8 by rw [D.flats_length]; exact lens_Tm ts)
  have HNU := hid (D.flats_num (Tm.ds ts))
  have HLL := hid (D.flats_leaf (Tm.ds ts))
  have HGT := hid (fun j i d x h1 h2 => D.flats_get (m := 8) (Tm.ds ts) j i d x (Tm.ds_len ts) h1 h2)
  have HGE := hid (Tm.ds_get ts)
  generalize hL : D.flats (Tm.ds ts) = L at HRW HDN HFL HNU HLL HGT
  have HK := hid hk
  have HNE := hid hne
  have IH := hid ih
  have HN := hid hN
  clear hr ho hk hdl hne hdne hx hr' hL h2 hbl ih hN
  go_enter Tryz.func60, Tryz.ntmps60
  go_wp2_with fail
  go_loopw [1, 5] (fun q i wr => ∃ (j kk : Nat), j ≤ ts.length ∧ i = .int .i64 j ∧ q = .int .i64 kk ∧ Hid (k + D.nums (L.take (j * 8)) = kk) ∧ Hid (RowMk k L F' b o (j * 8) wr) ∧ Hid (Mk (b :: F') w wr)) (fun _ i _ => ts.length - (intOf i).toNat)
  case atStart => exact ⟨0, k, by omega, rfl, rfl, by simp [D.nums, Hid], by simpa [Hid] using HRW.out, Mk.refl _ _⟩
  case round =>
    obtain ⟨j, kk, hj, rfl, rfl, HE0, HS0, HM0⟩ := hrel
    have hkk : kk ≤ 1099511627776 := by have h1 := HE0.out; have h2 := D.nums_take_le L (j * 8); have h3 := HNU.out; have h4 := HK.out; omega
    by_cases hlt : j < ts.length
    case neg =>
      have HP := hid (show MkPost w (.slice (some ⟨b, o, none⟩) ts.length c) (b :: F') k (Tm.ds ts) (.returned (.int .i64 kk)) wr by
        obtain rfl : j = ts.length := by omega
        refine ⟨?_, HDN.out _ _ HS0.out HFL.out.symm, HM0.out⟩
        have h1 := HE0.out
        rw [← HFL.out, List.take_length, HNU.out] at h1
        rw [h1])
      go_wp2_with fail
      go_ret
      exact HP.out
    case pos =>
      obtain ⟨t, ht⟩ : ∃ t, ts[j]? = some t := ⟨_, List.getElem?_eq_getElem hlt⟩
      obtain ⟨k3, u3, n3, ⟨tk3, tn3, tks3⟩, ns3, ks3⟩ := t
      have hL0 : L[j * 8]? = some (.int k3) := HGT.out j 0 (Tm.d (Tm.mk k3 u3 n3 (Ty.mk tk3 tn3 tks3) ns3 ks3)) (.int k3) (by rw [HGE.out, ht]; rfl) (by simp [Tm.d, Ty.d, D.flat, D.flats])
      have hL1 : L[j * 8 + 1]? = some (.int u3) := HGT.out j 1 (Tm.d (Tm.mk k3 u3 n3 (Ty.mk tk3 tn3 tks3) ns3 ks3)) (.int u3) (by rw [HGE.out, ht]; rfl) (by simp [Tm.d, Ty.d, D.flat, D.flats])
      have hL2 : L[j * 8 + 2]? = some (.str n3) := HGT.out j 2 (Tm.d (Tm.mk k3 u3 n3 (Ty.mk tk3 tn3 tks3) ns3 ks3)) (.str n3) (by rw [HGE.out, ht]; rfl) (by simp [Tm.d, Ty.d, D.flat, D.flats])
      have hL3 : L[j * 8 + 3]? = some (.int tk3) := HGT.out j 3 (Tm.d (Tm.mk k3 u3 n3 (Ty.mk tk3 tn3 tks3) ns3 ks3)) (.int tk3) (by rw [HGE.out, ht]; rfl) (by simp [Tm.d, Ty.d, D.flat, D.flats])
      have hL4 : L[j * 8 + 4]? = some (.str tn3) := HGT.out j 4 (Tm.d (Tm.mk k3 u3 n3 (Ty.mk tk3 tn3 tks3) ns3 ks3)) (.str tn3) (by rw [HGE.out, ht]; rfl) (by simp [Tm.d, Ty.d, D.flat, D.flats])
      have hL5 : L[j * 8 + 5]? = some (.list (Ty.ds tks3)) := HGT.out j 5 (Tm.d (Tm.mk k3 u3 n3 (Ty.mk tk3 tn3 tks3) ns3 ks3)) (.list (Ty.ds tks3)) (by rw [HGE.out, ht]; rfl) (by simp [Tm.d, Ty.d, D.flat, D.flats])
      have hL6 : L[j * 8 + 6]? = some (.list (Sr.ds ns3)) := HGT.out j 6 (Tm.d (Tm.mk k3 u3 n3 (Ty.mk tk3 tn3 tks3) ns3 ks3)) (.list (Sr.ds ns3)) (by rw [HGE.out, ht]; rfl) (by simp [Tm.d, Ty.d, D.flat, D.flats])
      have hL7 : L[j * 8 + 7]? = some (.list (Tm.ds ks3)) := HGT.out j 7 (Tm.d (Tm.mk k3 u3 n3 (Ty.mk tk3 tn3 tks3) ns3 ks3)) (.list (Tm.ds ks3)) (by rw [HGE.out, ht]; rfl) (by simp [Tm.d, Ty.d, D.flat, D.flats])
      obtain ⟨v0, G0, c0, z0, r0⟩ := HS0.out.peek HLL.out (j * 8) (by omega) hL0
      have c0' : wr.cell? ⟨b, o + j * 8, none⟩ = some v0 := c0
      have z0' : wr.frozen? ⟨b, o + j * 8, none⟩ = false := z0
      obtain ⟨v1, G1, c1, z1, r1⟩ := HS0.out.peek HLL.out (j * 8 + 1) (by omega) hL1
      have c1' : wr.cell? ⟨b, o + j * 8 + 1, none⟩ = some v1 := c1
      have z1' : wr.frozen? ⟨b, o + j * 8 + 1, none⟩ = false := z1
      have hv0 : ∀ W, Rd W (D.mark (k + D.nums (L.take (j * 8))) (.int k3)) [.int .i64 ((kk : Int))] [] := fun W => by rw [HE0.out]; have := Rd.int_mk (w := W) (n := ((kk : Nat) : Int)) (by omega) (by omega); simpa [D.mark] using this
      have S1 : Hid (RowMk k L F' b o (j * 8 + 1) _) := hid ((HS0.out.scalar HLL.out hL0 Rd.int_sc).2.2 _ hv0)
      have M1 := hid (HM0.out.trans (Mk.set (o := o + (j * 8)) (.int .i64 ((kk : Int))) (List.mem_cons_self)))
      have E1 := hid (show k + D.nums (L.take (j * 8 + 1)) = kk + 1 by have h1 : D.nums (L.take (j * 8 + 1)) = _ := D.nums_take L _ _ hL0; have h2 := HE0.out; have h3 : D.num (.int k3) = 1 := rfl; omega)
      have hb1 : kk + 1 ≤ 1099511627776 := by have h1 := E1.out; have h2 := D.nums_take_le L (j * 8 + 1); have h3 := HNU.out; have h4 := HK.out; omega
      have hv1 : ∀ W, Rd W (D.mark (k + D.nums (L.take (j * 8 + 1))) (.int u3)) [.int .i64 ((kk : Int) + 1)] [] := fun W => by rw [E1.out]; have := Rd.int_mk (w := W) (n := ((kk + 1 : Nat) : Int)) (by omega) (by omega); simpa [D.mark] using this
      have S2 : Hid (RowMk k L F' b o (j * 8 + 2) _) := hid ((S1.out.scalar HLL.out hL1 Rd.int_sc).2.2 _ hv1)
      have M2 := hid (M1.out.trans (Mk.set (o := o + (j * 8 + 1)) (.int .i64 ((kk : Int) + 1)) (List.mem_cons_self)))
      have E2 := hid (show k + D.nums (L.take (j * 8 + 2)) = kk + 1 + 1 by have h1 : D.nums (L.take (j * 8 + 2)) = _ := D.nums_take L _ _ hL1; have h2 := E1.out; have h3 : D.num (.int u3) = 1 := rfl; omega)
      have hb2 : kk + 1 + 1 ≤ 1099511627776 := by have h1 := E2.out; have h2 := D.nums_take_le L (j * 8 + 2); have h3 := HNU.out; have h4 := HK.out; omega
      have hT2 := fun W => mark_Text (kk + 1 + 1) (by omega) W
      rw [show ((kk + 1 + 1 : Nat) : Int) = (kk : Int) + 1 + 1 from by omega] at hT2
      have HT2 := hid hT2
      clear hT2
      go_wp2_with fail
      refine (HT2.out _).mono ?_
      rintro e u2 ⟨rfl, hbb⟩
      have T2 := hid (S2.out.below hbb)
      have N2 := hid (M2.out.trans (Mk.of_below hbb))
      clear hbb c0' z0' c1' z1'
      obtain ⟨v2, G2, c2, z2, r2⟩ := T2.out.peek HLL.out (j * 8 + 2) (by omega) hL2
      have c2' : u2.cell? ⟨b, o + j * 8 + 2, none⟩ = some v2 := c2
      have z2' : u2.frozen? ⟨b, o + j * 8 + 2, none⟩ = false := z2
      obtain ⟨v3, G3, c3, z3, r3⟩ := T2.out.peek HLL.out (j * 8 + 3) (by omega) hL3
      have c3' : u2.cell? ⟨b, o + j * 8 + 3, none⟩ = some v3 := c3
      have z3' : u2.frozen? ⟨b, o + j * 8 + 3, none⟩ = false := z3
      have hv2 : ∀ W, Rd W (D.mark (k + D.nums (L.take (j * 8 + 2))) (.str n3)) [.string (mtxt (kk + 1 + 1))] [] := fun W => by rw [E2.out]; have := Rd.str_mk (w := W) (s := mtxt (kk + 1 + 1)) (by have := mtxt_size (kk + 1 + 1); omega); simpa [D.mark] using this
      have S3 : Hid (RowMk k L F' b o (j * 8 + 3) _) := hid ((T2.out.scalar HLL.out hL2 Rd.str_sc).2.2 _ hv2)
      have M3 := hid (N2.out.trans (Mk.set (o := o + (j * 8 + 2)) (.string (mtxt (kk + 1 + 1))) (List.mem_cons_self)))
      have E3 := hid (show k + D.nums (L.take (j * 8 + 3)) = kk + 1 + 1 + 1 by have h1 : D.nums (L.take (j * 8 + 3)) = _ := D.nums_take L _ _ hL2; have h2 := E2.out; have h3 : D.num (.str n3) = 1 := rfl; omega)
      have hb3 : kk + 1 + 1 + 1 ≤ 1099511627776 := by have h1 := E3.out; have h2 := D.nums_take_le L (j * 8 + 3); have h3 := HNU.out; have h4 := HK.out; omega
      have hv3 : ∀ W, Rd W (D.mark (k + D.nums (L.take (j * 8 + 3))) (.int tk3)) [.int .i64 ((kk : Int) + 1 + 1 + 1)] [] := fun W => by rw [E3.out]; have := Rd.int_mk (w := W) (n := ((kk + 1 + 1 + 1 : Nat) : Int)) (by omega) (by omega); simpa [D.mark] using this
      have S4 : Hid (RowMk k L F' b o (j * 8 + 4) _) := hid ((S3.out.scalar HLL.out hL3 Rd.int_sc).2.2 _ hv3)
      have M4 := hid (M3.out.trans (Mk.set (o := o + (j * 8 + 3)) (.int .i64 ((kk : Int) + 1 + 1 + 1)) (List.mem_cons_self)))
      have E4 := hid (show k + D.nums (L.take (j * 8 + 4)) = kk + 1 + 1 + 1 + 1 by have h1 : D.nums (L.take (j * 8 + 4)) = _ := D.nums_take L _ _ hL3; have h2 := E3.out; have h3 : D.num (.int tk3) = 1 := rfl; omega)
      have hb4 : kk + 1 + 1 + 1 + 1 ≤ 1099511627776 := by have h1 := E4.out; have h2 := D.nums_take_le L (j * 8 + 4); have h3 := HNU.out; have h4 := HK.out; omega
      have hT4 := fun W => mark_Text (kk + 1 + 1 + 1 + 1) (by omega) W
      rw [show ((kk + 1 + 1 + 1 + 1 : Nat) : Int) = (kk : Int) + 1 + 1 + 1 + 1 from by omega] at hT4
      have HT4 := hid hT4
      clear hT4
      go_wp2_with fail
      refine (HT4.out _).mono ?_
      rintro e u4 ⟨rfl, hbb⟩
      have T4 := hid (S4.out.below hbb)
      have N4 := hid (M4.out.trans (Mk.of_below hbb))
      clear hbb c2' z2' c3' z3'
      obtain ⟨v4, G4, c4, z4, r4⟩ := T4.out.peek HLL.out (j * 8 + 4) (by omega) hL4
      have c4' : u4.cell? ⟨b, o + j * 8 + 4, none⟩ = some v4 := c4
      have z4' : u4.frozen? ⟨b, o + j * 8 + 4, none⟩ = false := z4
      have hv4 : ∀ W, Rd W (D.mark (k + D.nums (L.take (j * 8 + 4))) (.str tn3)) [.string (mtxt (kk + 1 + 1 + 1 + 1))] [] := fun W => by rw [E4.out]; have := Rd.str_mk (w := W) (s := mtxt (kk + 1 + 1 + 1 + 1)) (by have := mtxt_size (kk + 1 + 1 + 1 + 1); omega); simpa [D.mark] using this
      have S5 : Hid (RowMk k L F' b o (j * 8 + 5) _) := hid ((T4.out.scalar HLL.out hL4 Rd.str_sc).2.2 _ hv4)
      have M5 := hid (N4.out.trans (Mk.set (o := o + (j * 8 + 4)) (.string (mtxt (kk + 1 + 1 + 1 + 1))) (List.mem_cons_self)))
      have E5 := hid (show k + D.nums (L.take (j * 8 + 5)) = kk + 1 + 1 + 1 + 1 + 1 by have h1 : D.nums (L.take (j * 8 + 5)) = _ := D.nums_take L _ _ hL4; have h2 := E4.out; have h3 : D.num (.str tn3) = 1 := rfl; omega)
      have hb5 : kk + 1 + 1 + 1 + 1 + 1 ≤ 1099511627776 := by have h1 := E5.out; have h2 := D.nums_take_le L (j * 8 + 5); have h3 := HNU.out; have h4 := HK.out; omega
      obtain ⟨y5, G5', c5'', r5', o5', s5', set5⟩ := S5.out.list HLL.out hL5
      obtain ⟨a5, n5, ee5, h25, h35, -⟩ := r5'.list_inv
      simp only [List.cons.injEq, and_true, Ty.ds_length] at ee5 h25
      obtain rfl := ee5
      have c5' : u4.cell? ⟨b, o + j * 8 + 5, none⟩ = some (.slice a5 tks3.length n5) := by have h := c5''; rw [cell_set_ne (by omega)] at h; exact h
      obtain ⟨kx5, hkx5⟩ : ∃ kx, kx = kk + 1 + 1 + 1 + 1 + 1 + D.nums (Ty.ds tks3) := ⟨_, rfl⟩
      have E6 := hid (show k + D.nums (L.take (j * 8 + 6)) = kx5 by have h1 : D.nums (L.take (j * 8 + 6)) = _ := D.nums_take L _ _ hL5; have h2 := E5.out; have h3 : D.num (.list (Ty.ds tks3)) = D.nums (Ty.ds tks3) := (by rw [D.num]); omega)
      have hb6 : kx5 ≤ 1099511627776 := by have h1 := E6.out; have h2 := D.nums_take_le L (j * 8 + 6); have h3 := HNU.out; have h4 := HK.out; omega
      have hc5 := markTys tks3 a5 n5 G5' (kk + 1 + 1 + 1 + 1 + 1) _ (by omega) (by omega) r5' o5'
      unfold MkPost at hc5
      rw [← hkx5] at hc5
      rw [show ((kk + 1 + 1 + 1 + 1 + 1 : Nat) : Int) = (kk : Int) + 1 + 1 + 1 + 1 + 1 from by omega] at hc5
      have HKX5 := hid hkx5
      clear hkx5
      have HC5 := hid hc5
      have HST5 := hid set5
      rw [E5.out] at HST5
      have HSU5 := hid s5'
      clear hc5 set5 s5' r5' o5' c5''
      go_wp2_with fail
      refine HC5.out.mono ?_
      rintro e u5 ⟨rfl, hrd, hmk⟩
      have S6 : Hid (RowMk k L F' b o (j * 8 + 6) _) := hid (HST5.out _ hmk hrd)
      have M6 := hid (M5.out.trans (hmk.mono fun x hx => List.mem_cons_of_mem _ (HSU5.out x hx)))
      clear hmk hrd HC5 HST5 c4' z4' c5'
      obtain ⟨y6, G6', c6'', r6', o6', s6', set6⟩ := S6.out.list HLL.out hL6
      obtain ⟨a6, n6, ee6, h26, h36, -⟩ := r6'.list_inv
      simp only [List.cons.injEq, and_true, Sr.ds_length] at ee6 h26
      obtain rfl := ee6
      have c6' : u5.cell? ⟨b, o + j * 8 + 6, none⟩ = some (.slice a6 ns3.length n6) := by have h := c6''; exact h
      obtain ⟨kx6, hkx6⟩ : ∃ kx, kx = kx5 + D.nums (Sr.ds ns3) := ⟨_, rfl⟩
      have E7 := hid (show k + D.nums (L.take (j * 8 + 7)) = kx6 by have h1 : D.nums (L.take (j * 8 + 7)) = _ := D.nums_take L _ _ hL6; have h2 := E6.out; have h3 : D.num (.list (Sr.ds ns3)) = D.nums (Sr.ds ns3) := (by rw [D.num]); omega)
      have hb7 : kx6 ≤ 1099511627776 := by have h1 := E7.out; have h2 := D.nums_take_le L (j * 8 + 7); have h3 := HNU.out; have h4 := HK.out; omega
      have hc6 := markSrs ns3 a6 n6 G6' (kx5) _ (by omega) (by omega) r6' o6'
      unfold MkPost at hc6
      rw [← hkx6] at hc6
      have HKX6 := hid hkx6
      clear hkx6
      have HC6 := hid hc6
      have HST6 := hid set6
      rw [E6.out] at HST6
      have HSU6 := hid s6'
      clear hc6 set6 s6' r6' o6' c6''
      go_wp2_with fail
      refine HC6.out.mono ?_
      rintro e u6 ⟨rfl, hrd, hmk⟩
      have S7 : Hid (RowMk k L F' b o (j * 8 + 7) _) := hid (HST6.out _ hmk hrd)
      have M7 := hid (M6.out.trans (hmk.mono fun x hx => List.mem_cons_of_mem _ (HSU6.out x hx)))
      clear hmk hrd HC6 HST6 c6'
      obtain ⟨y7, G7', c7'', r7', o7', s7', set7⟩ := S7.out.list HLL.out hL7
      obtain ⟨a7, n7, ee7, h27, h37, -⟩ := r7'.list_inv
      simp only [List.cons.injEq, and_true, Tm.ds_length] at ee7 h27
      obtain rfl := ee7
      have c7' : u6.cell? ⟨b, o + j * 8 + 7, none⟩ = some (.slice a7 ks3.length n7) := by have h := c7''; exact h
      obtain ⟨kx7, hkx7⟩ : ∃ kx, kx = kx6 + D.nums (Tm.ds ks3) := ⟨_, rfl⟩
      have E8 := hid (show k + D.nums (L.take (j * 8 + 8)) = kx7 by have h1 : D.nums (L.take (j * 8 + 8)) = _ := D.nums_take L _ _ hL7; have h2 := E7.out; have h3 : D.num (.list (Tm.ds ks3)) = D.nums (Tm.ds ks3) := (by rw [D.num]); omega)
      have hb8 : kx7 ≤ 1099511627776 := by have h1 := E8.out; have h2 := D.nums_take_le L (j * 8 + 8); have h3 := HNU.out; have h4 := HK.out; omega
      have hc7 := IH.out ks3 a7 n7 G7' (kx6) _ (by have h1 := Tm.bulk_get ts j _ ht; have h2 := HN.out; have h3 : Tm.bulks ks3 ≤ Tm.bulk (Tm.mk k3 u3 n3 (Ty.mk tk3 tn3 tks3) ns3 ks3) := (by simp only [Tm.bulk]; omega); omega) (by omega) (by omega) r7' o7'
      unfold MkPost at hc7
      rw [← hkx7] at hc7
      have HKX7 := hid hkx7
      clear hkx7
      have HC7 := hid hc7
      have HST7 := hid set7
      rw [E7.out] at HST7
      have HSU7 := hid s7'
      clear hc7 set7 s7' r7' o7' c7''
      go_wp2_with fail
      refine HC7.out.mono ?_
      rintro e u7 ⟨rfl, hrd, hmk⟩
      have S8 : Hid (RowMk k L F' b o (j * 8 + 8) _) := hid (HST7.out _ hmk hrd)
      have M8 := hid (M7.out.trans (hmk.mono fun x hx => List.mem_cons_of_mem _ (HSU7.out x hx)))
      clear hmk hrd HC7 HST7 c7'
      go_wp2_with fail
      go_roundw
      case rel => exact ⟨j + 1, kx7, by omega, by go_num, by go_num, by rw [Nat.succ_mul]; exact E8, by rw [Nat.succ_mul]; exact S8, M8⟩
      case measure => simp [intOf]; omega
theorem markTms_all : ∀ N, MkTmW N
  | 0 => fun _ _ _ _ _ _ h => absurd h (by omega)
  | N + 1 => markTms_step N (markTms_all N)
theorem markTms (ts : List Tm) (a : Option Addr) (c : Nat) (F : List Nat) (k : Nat) (w : World) (hlen : ts.length ≤ 9223372036854775807) (hk : k + D.nums (Tm.ds ts) ≤ 1099511627776) (hr : Rd w (.list (Tm.ds ts)) [.slice a ts.length c] F) (ho : Owned w 0 F) :
    Calls Tryz.prog 60 #[.slice a ts.length c, .int .i64 k] w (MkPost w (.slice a ts.length c) F k (Tm.ds ts)) :=
  markTms_all (Tm.bulks ts + 1) ts a c F k w (by omega) hlen hk hr ho
end Go.Proofs.YtgpefnlpbjnjbaaGreat

namespace Go.Proofs.YtgpefnlpbjnjbaaGreat
open Go.ChangeShapes Go.WideShapes Go.ChangeAt Go.RowKit
set_option linter.unusedVariables false

mutual
theorem Ty.num_le : ∀ t : Ty, D.num (Ty.d t) ≤ 2 + 2 * Ty.bulk t
  | .mk k n ks => by
    have h_ks := Ty.nums_le ks
    simp only [Ty.d, D.num, D.nums, Ty.bulk] at *
    omega
theorem Ty.nums_le : ∀ ts : List Ty, D.nums (Ty.ds ts) ≤ 2 * Ty.bulks ts
  | [] => by simp [Ty.ds, D.nums]
  | t :: ts => by have h1 := Ty.num_le t; have h2 := Ty.nums_le ts; simp only [Ty.ds, D.nums, Ty.bulks]; omega
end
theorem Rd.parts_Ty {w : World} {k : Int} {n : ByteArray} {ks : List Ty} {aks : Option Addr} {cks : Nat} {F : List Nat} (h : Rd w (Ty.d (Ty.mk k n ks)) [.int .i64 k, .string n, .slice aks ks.length cks] F) : ∃ P2, F = P2 ∧ Rd w (.list (Ty.ds ks)) [.slice aks ks.length cks] P2 := by
  obtain ⟨e0, r0, F0, G0, x0, rfl, g0, k0⟩ := h.struct_inv.cons_inv
  have l0 := g0.length
  obtain ⟨e1, r1, F1, G1, x1, rfl, g1, k1⟩ := k0.cons_inv
  have l1 := g1.length
  obtain ⟨e2, r2, F2, G2, x2, rfl, g2, k2⟩ := k1.cons_inv
  have l2 := g2.length
  obtain ⟨xr, xg⟩ := RdAll.nil_inv k2
  simp only [D.len] at l0 l1 l2
  match e0, l0 with
  | [y0_0], _ =>
  simp only [List.cons_append, List.nil_append, List.cons.injEq] at x0
  obtain ⟨rfl, x0'⟩ := x0
  subst x0'
  match e1, l1 with
  | [y1_0], _ =>
  simp only [List.cons_append, List.nil_append, List.cons.injEq] at x1
  obtain ⟨rfl, x1'⟩ := x1
  subst x1'
  match e2, l2 with
  | [y2_0], _ =>
  simp only [List.cons_append, List.nil_append, List.cons.injEq] at x2
  obtain ⟨rfl, x2'⟩ := x2
  subst x2'
  obtain rfl := g0.int_inv.2.1
  obtain rfl := g1.str_inv.2.1
  subst xg
  exact ⟨F2, by simp, g2⟩
end Go.Proofs.YtgpefnlpbjnjbaaGreat

namespace Go.Proofs.YtgpefnlpbjnjbaaGreat
open Go.ChangeShapes Go.WideShapes Go.ChangeAt Go.RowKit
set_option linter.unusedVariables false

mutual
theorem Tm.num_le : ∀ t : Tm, D.num (Tm.d t) ≤ 5 + 5 * Tm.bulk t
  | .mk k u n (Ty.mk tk tn tks) ns ks => by
    have h_tks := Ty.nums_le tks
    have h_ns := nums_Sr ns
    have g_ns := Sr.bulks_length ns
    have h_ks := Tm.nums_le ks
    simp only [Tm.d, D.num, D.nums, Tm.bulk, Ty.d, Ty.bulk] at *
    omega
theorem Tm.nums_le : ∀ ts : List Tm, D.nums (Tm.ds ts) ≤ 5 * Tm.bulks ts
  | [] => by simp [Tm.ds, D.nums]
  | t :: ts => by have h1 := Tm.num_le t; have h2 := Tm.nums_le ts; simp only [Tm.ds, D.nums, Tm.bulks]; omega
end
theorem Rd.parts_Tm {w : World} {k : Int} {u : Int} {n : ByteArray} {tk : Int} {tn : ByteArray} {tks : List Ty} {ns : List ByteArray} {ks : List Tm} {atks : Option Addr} {ctks : Nat} {ans : Option Addr} {cns : Nat} {aks : Option Addr} {cks : Nat} {F : List Nat} (h : Rd w (Tm.d (Tm.mk k u n (Ty.mk tk tn tks) ns ks)) [.int .i64 k, .int .i64 u, .string n, .int .i64 tk, .string tn, .slice atks tks.length ctks, .slice ans ns.length cns, .slice aks ks.length cks] F) : ∃ P3 P4 P5, F = P3 ++ (P4 ++ P5) ∧ Rd w (Ty.d (Ty.mk tk tn tks)) [.int .i64 tk, .string tn, .slice atks tks.length ctks] P3 ∧ Rd w (.list (Sr.ds ns)) [.slice ans ns.length cns] P4 ∧ Rd w (.list (Tm.ds ks)) [.slice aks ks.length cks] P5 := by
  obtain ⟨e0, r0, F0, G0, x0, rfl, g0, k0⟩ := h.struct_inv.cons_inv
  have l0 := g0.length
  obtain ⟨e1, r1, F1, G1, x1, rfl, g1, k1⟩ := k0.cons_inv
  have l1 := g1.length
  obtain ⟨e2, r2, F2, G2, x2, rfl, g2, k2⟩ := k1.cons_inv
  have l2 := g2.length
  obtain ⟨e3, r3, F3, G3, x3, rfl, g3, k3⟩ := k2.cons_inv
  have l3 := g3.length
  obtain ⟨e4, r4, F4, G4, x4, rfl, g4, k4⟩ := k3.cons_inv
  have l4 := g4.length
  obtain ⟨e5, r5, F5, G5, x5, rfl, g5, k5⟩ := k4.cons_inv
  have l5 := g5.length
  obtain ⟨xr, xg⟩ := RdAll.nil_inv k5
  simp only [D.len] at l0 l1 l2 l4 l5
  rw [Ty.d_len] at l3
  match e0, l0 with
  | [y0_0], _ =>
  simp only [List.cons_append, List.nil_append, List.cons.injEq] at x0
  obtain ⟨rfl, x0'⟩ := x0
  subst x0'
  match e1, l1 with
  | [y1_0], _ =>
  simp only [List.cons_append, List.nil_append, List.cons.injEq] at x1
  obtain ⟨rfl, x1'⟩ := x1
  subst x1'
  match e2, l2 with
  | [y2_0], _ =>
  simp only [List.cons_append, List.nil_append, List.cons.injEq] at x2
  obtain ⟨rfl, x2'⟩ := x2
  subst x2'
  match e3, l3 with
  | [y3_0, y3_1, y3_2], _ =>
  simp only [List.cons_append, List.nil_append, List.cons.injEq] at x3
  obtain ⟨rfl, rfl, rfl, x3'⟩ := x3
  subst x3'
  match e4, l4 with
  | [y4_0], _ =>
  simp only [List.cons_append, List.nil_append, List.cons.injEq] at x4
  obtain ⟨rfl, x4'⟩ := x4
  subst x4'
  match e5, l5 with
  | [y5_0], _ =>
  simp only [List.cons_append, List.nil_append, List.cons.injEq] at x5
  obtain ⟨rfl, x5'⟩ := x5
  subst x5'
  obtain rfl := g0.int_inv.2.1
  obtain rfl := g1.int_inv.2.1
  obtain rfl := g2.str_inv.2.1
  subst xg
  exact ⟨F3, F4, F5, by simp, g3, g4, g5⟩
theorem heldIns (L0 : List Int) (a : Option Addr) (c : Nat) (k : Nat) (w : World) (hk : k + L0.length ≤ 1099511627776) (hr : RdL w (D.marks k (In.ds L0)) (.slice a L0.length c)) :
    Calls Tryz.prog 14 #[.slice a L0.length c, .int .i64 k] w fun e w' => e = .returned (.int .i64 (k + L0.length : Nat)) ∧ w = w' := by
  rw [marks_In] at hr
  obtain ⟨a', c', e, h2, h3, h4⟩ := hr.eIn
  rw [iotaI_length] at e h2 h4
  simp only [Value.slice.injEq, true_and] at e
  obtain ⟨rfl, rfl⟩ := e
  have H4 := hid h4
  have HIO := hid (iotaI_get L0.length k)
  clear hr h4
  go_enter Tryz.func14, Tryz.ntmps14
  go_wp2_with fail
  go_loopw [1, 5] (fun q i wr => ∃ (j m : Nat), j ≤ L0.length ∧ i = .int .i64 j ∧ q = .int .i64 m ∧ Hid (m = k + j) ∧ w = wr) (fun _ i _ => L0.length - (intOf i).toNat)
  case atStart => exact ⟨0, k, by omega, rfl, rfl, rfl, rfl⟩
  case round =>
    obtain ⟨j, m, hj, rfl, rfl, HM, rfl⟩ := hrel
    have hm : m ≤ 1099511627776 := by have := HM.out; omega
    by_cases hlt : j < L0.length
    case neg =>
      have HE := hid (show m = k + L0.length by have := HM.out; omega)
      go_wp2_with fail
      go_ret
      exact ⟨by rw [← HE.out]; rfl, rfl⟩
    case pos =>
      obtain ⟨b, o, rfl, hbl, hall⟩ := H4.out (by omega)
      have q0 := (hall j _ (HIO.out j hlt)).1
      rw [← HM.out] at q0
      clear hall H4
      go_wp2_with fail
      go_roundw
      case rel => exact ⟨j + 1, m + 1, by omega, by go_num, by go_num, hid (by have := HM.out; omega), by first | rfl | trivial⟩
      case measure => simp [intOf]; omega
end Go.Proofs.YtgpefnlpbjnjbaaGreat

namespace Go.Proofs.YtgpefnlpbjnjbaaGreat
open Go.ChangeShapes Go.WideShapes Go.ChangeAt Go.RowKit
set_option linter.unusedVariables false

theorem lens_Df : ∀ ts : List Df, D.lens (Df.ds ts) = ts.length * 12
  | [] => rfl
  | t :: ts => by simp [Df.ds, D.lens, Df.d_len, lens_Df ts]; omega
set_option maxRecDepth 100000 in
set_option maxHeartbeats 4000000 in
theorem markDfs (ts : List Df) (a : Option Addr) (c : Nat) (F : List Nat) (k : Nat) (w : World) (hlen : ts.length ≤ 9223372036854775807) (hk : k + D.nums (Df.ds ts) ≤ 1099511627776) (hr : Rd w (.list (Df.ds ts)) [.slice a ts.length c] F) (ho : Owned w 0 F) :
    Calls Tryz.prog 31 #[.slice a ts.length c, .int .i64 k] w (MkPost w (.slice a ts.length c) F k (Df.ds ts)) := by
  have hdl := Df.ds_length ts
  by_cases hne : ts = []
  case pos =>
    have HP := hid (show MkPost w (.slice a ts.length c) F k (Df.ds ts) (.returned (.int .i64 k)) w by
      subst hne
      exact ⟨by simp [Df.ds, D.nums], by simpa [Df.ds, D.marks] using hr, Mk.refl _ _⟩)
    have hz : ts.length = 0 := by rw [hne]; rfl
    clear hr ho hk hdl hne
    go_enter Tryz.func31, Tryz.ntmps31
    go_wp2_with fail
    go_loopw [1, 5] (fun q i wr => ∃ (j : Nat), j = 0 ∧ i = .int .i64 j ∧ q = .int .i64 k ∧ w = wr) (fun _ i _ => 0)
    case atStart => exact ⟨0, rfl, rfl, rfl, rfl⟩
    case round =>
      obtain ⟨j, hj, rfl, rfl, rfl⟩ := hrel
      have hlt : ¬ j < ts.length := by omega
      go_wp2_with fail
      go_ret
      exact HP.out
  case neg =>
  have hdne : Df.ds ts ≠ [] := fun e => hne (List.length_eq_zero_iff.1 (by rw [← hdl, e]; rfl))
  obtain ⟨a', cap', e, h2, h3, h4⟩ := hr.list_inv
  simp only [List.cons.injEq, Value.slice.injEq, and_true] at e
  obtain ⟨rfl, -, rfl⟩ := e
  rcases h4 with ⟨h, _⟩ | ⟨b, o, xs, F', _, rfl, rfl, hbl, hx, hr'⟩
  · exact absurd h hdne
  have HRW := hid (RowMk.start (k := k) hx hr' ho)
  have HDN := hid (fun p W (h : RowMk k (D.flats (Df.ds ts)) F' b o p W) (hp : p = (D.flats (Df.ds ts)).length) => h.done hp hdl.symm hdne (by omega) h3)
  have HFL := hid (show (D.flats (Df.ds ts)).length = ts.length * 12 by rw [D.flats_length]; exact lens_Df ts)
  have HNU := hid (D.flats_num (Df.ds ts))
  have HLL := hid (D.flats_leaf (Df.ds ts))
  have HGT := hid (fun j i d x h1 h2 => D.flats_get (m := 12) (Df.ds ts) j i d x (Df.ds_len ts) h1 h2)
  have HGE := hid (Df.ds_get ts)
  generalize hL : D.flats (Df.ds ts) = L at HRW HDN HFL HNU HLL HGT
  have HK := hid hk
  have HNE := hid hne
  clear hr ho hk hdl hne hdne hx hr' hL h2 hbl
  go_enter Tryz.func31, Tryz.ntmps31
  go_wp2_with fail
  go_loopw [1, 5] (fun q i wr => ∃ (j kk : Nat), j ≤ ts.length ∧ i = .int .i64 j ∧ q = .int .i64 kk ∧ Hid (k + D.nums (L.take (j * 12)) = kk) ∧ Hid (RowMk k L F' b o (j * 12) wr) ∧ Hid (Mk (b :: F') w wr)) (fun _ i _ => ts.length - (intOf i).toNat)
  case atStart => exact ⟨0, k, by omega, rfl, rfl, by simp [D.nums, Hid], by simpa [Hid] using HRW.out, Mk.refl _ _⟩
  case round =>
    obtain ⟨j, kk, hj, rfl, rfl, HE0, HS0, HM0⟩ := hrel
    have hkk : kk ≤ 1099511627776 := by have h1 := HE0.out; have h2 := D.nums_take_le L (j * 12); have h3 := HNU.out; have h4 := HK.out; omega
    by_cases hlt : j < ts.length
    case neg =>
      have HP := hid (show MkPost w (.slice (some ⟨b, o, none⟩) ts.length c) (b :: F') k (Df.ds ts) (.returned (.int .i64 kk)) wr by
        obtain rfl : j = ts.length := by omega
        refine ⟨?_, HDN.out _ _ HS0.out HFL.out.symm, HM0.out⟩
        have h1 := HE0.out
        rw [← HFL.out, List.take_length, HNU.out] at h1
        rw [h1])
      go_wp2_with fail
      go_ret
      exact HP.out
    case pos =>
      obtain ⟨t, ht⟩ : ∃ t, ts[j]? = some t := ⟨_, List.getElem?_eq_getElem hlt⟩
      obtain ⟨n3, ⟨tk3, tn3, tks3⟩, ⟨bk3, bu3, bn3, ⟨btk3, btn3, btks3⟩, bns3, bks3⟩⟩ := t
      have hL0 : L[j * 12]? = some (.str n3) := HGT.out j 0 (Df.d (Df.mk n3 (Ty.mk tk3 tn3 tks3) (Tm.mk bk3 bu3 bn3 (Ty.mk btk3 btn3 btks3) bns3 bks3))) (.str n3) (by rw [HGE.out, ht]; rfl) (by simp [Df.d, Tm.d, Ty.d, D.flat, D.flats])
      have hL1 : L[j * 12 + 1]? = some (.int tk3) := HGT.out j 1 (Df.d (Df.mk n3 (Ty.mk tk3 tn3 tks3) (Tm.mk bk3 bu3 bn3 (Ty.mk btk3 btn3 btks3) bns3 bks3))) (.int tk3) (by rw [HGE.out, ht]; rfl) (by simp [Df.d, Tm.d, Ty.d, D.flat, D.flats])
      have hL2 : L[j * 12 + 2]? = some (.str tn3) := HGT.out j 2 (Df.d (Df.mk n3 (Ty.mk tk3 tn3 tks3) (Tm.mk bk3 bu3 bn3 (Ty.mk btk3 btn3 btks3) bns3 bks3))) (.str tn3) (by rw [HGE.out, ht]; rfl) (by simp [Df.d, Tm.d, Ty.d, D.flat, D.flats])
      have hL3 : L[j * 12 + 3]? = some (.list (Ty.ds tks3)) := HGT.out j 3 (Df.d (Df.mk n3 (Ty.mk tk3 tn3 tks3) (Tm.mk bk3 bu3 bn3 (Ty.mk btk3 btn3 btks3) bns3 bks3))) (.list (Ty.ds tks3)) (by rw [HGE.out, ht]; rfl) (by simp [Df.d, Tm.d, Ty.d, D.flat, D.flats])
      have hL4 : L[j * 12 + 4]? = some (.int bk3) := HGT.out j 4 (Df.d (Df.mk n3 (Ty.mk tk3 tn3 tks3) (Tm.mk bk3 bu3 bn3 (Ty.mk btk3 btn3 btks3) bns3 bks3))) (.int bk3) (by rw [HGE.out, ht]; rfl) (by simp [Df.d, Tm.d, Ty.d, D.flat, D.flats])
      have hL5 : L[j * 12 + 5]? = some (.int bu3) := HGT.out j 5 (Df.d (Df.mk n3 (Ty.mk tk3 tn3 tks3) (Tm.mk bk3 bu3 bn3 (Ty.mk btk3 btn3 btks3) bns3 bks3))) (.int bu3) (by rw [HGE.out, ht]; rfl) (by simp [Df.d, Tm.d, Ty.d, D.flat, D.flats])
      have hL6 : L[j * 12 + 6]? = some (.str bn3) := HGT.out j 6 (Df.d (Df.mk n3 (Ty.mk tk3 tn3 tks3) (Tm.mk bk3 bu3 bn3 (Ty.mk btk3 btn3 btks3) bns3 bks3))) (.str bn3) (by rw [HGE.out, ht]; rfl) (by simp [Df.d, Tm.d, Ty.d, D.flat, D.flats])
      have hL7 : L[j * 12 + 7]? = some (.int btk3) := HGT.out j 7 (Df.d (Df.mk n3 (Ty.mk tk3 tn3 tks3) (Tm.mk bk3 bu3 bn3 (Ty.mk btk3 btn3 btks3) bns3 bks3))) (.int btk3) (by rw [HGE.out, ht]; rfl) (by simp [Df.d, Tm.d, Ty.d, D.flat, D.flats])
      have hL8 : L[j * 12 + 8]? = some (.str btn3) := HGT.out j 8 (Df.d (Df.mk n3 (Ty.mk tk3 tn3 tks3) (Tm.mk bk3 bu3 bn3 (Ty.mk btk3 btn3 btks3) bns3 bks3))) (.str btn3) (by rw [HGE.out, ht]; rfl) (by simp [Df.d, Tm.d, Ty.d, D.flat, D.flats])
      have hL9 : L[j * 12 + 9]? = some (.list (Ty.ds btks3)) := HGT.out j 9 (Df.d (Df.mk n3 (Ty.mk tk3 tn3 tks3) (Tm.mk bk3 bu3 bn3 (Ty.mk btk3 btn3 btks3) bns3 bks3))) (.list (Ty.ds btks3)) (by rw [HGE.out, ht]; rfl) (by simp [Df.d, Tm.d, Ty.d, D.flat, D.flats])
      have hL10 : L[j * 12 + 10]? = some (.list (Sr.ds bns3)) := HGT.out j 10 (Df.d (Df.mk n3 (Ty.mk tk3 tn3 tks3) (Tm.mk bk3 bu3 bn3 (Ty.mk btk3 btn3 btks3) bns3 bks3))) (.list (Sr.ds bns3)) (by rw [HGE.out, ht]; rfl) (by simp [Df.d, Tm.d, Ty.d, D.flat, D.flats])
      have hL11 : L[j * 12 + 11]? = some (.list (Tm.ds bks3)) := HGT.out j 11 (Df.d (Df.mk n3 (Ty.mk tk3 tn3 tks3) (Tm.mk bk3 bu3 bn3 (Ty.mk btk3 btn3 btks3) bns3 bks3))) (.list (Tm.ds bks3)) (by rw [HGE.out, ht]; rfl) (by simp [Df.d, Tm.d, Ty.d, D.flat, D.flats])
      have hT0 := fun W => mark_Text (kk) (by omega) W
      have HT0 := hid hT0
      clear hT0
      go_wp2_with fail
      refine (HT0.out _).mono ?_
      rintro e u0 ⟨rfl, hbb⟩
      have T0 := hid (HS0.out.below hbb)
      have N0 := hid (HM0.out.trans (Mk.of_below hbb))
      clear hbb
      obtain ⟨v0, G0, c0, z0, r0⟩ := T0.out.peek HLL.out (j * 12) (by omega) hL0
      have c0' : u0.cell? ⟨b, o + j * 12, none⟩ = some v0 := c0
      have z0' : u0.frozen? ⟨b, o + j * 12, none⟩ = false := z0
      obtain ⟨v1, G1, c1, z1, r1⟩ := T0.out.peek HLL.out (j * 12 + 1) (by omega) hL1
      have c1' : u0.cell? ⟨b, o + j * 12 + 1, none⟩ = some v1 := c1
      have z1' : u0.frozen? ⟨b, o + j * 12 + 1, none⟩ = false := z1
      have hv0 : ∀ W, Rd W (D.mark (k + D.nums (L.take (j * 12))) (.str n3)) [.string (mtxt (kk))] [] := fun W => by rw [HE0.out]; have := Rd.str_mk (w := W) (s := mtxt (kk)) (by have := mtxt_size (kk); omega); simpa [D.mark] using this
      have S1 : Hid (RowMk k L F' b o (j * 12 + 1) _) := hid ((T0.out.scalar HLL.out hL0 Rd.str_sc).2.2 _ hv0)
      have M1 := hid (N0.out.trans (Mk.set (o := o + (j * 12)) (.string (mtxt (kk))) (List.mem_cons_self)))
      have E1 := hid (show k + D.nums (L.take (j * 12 + 1)) = kk + 1 by have h1 : D.nums (L.take (j * 12 + 1)) = _ := D.nums_take L _ _ hL0; have h2 := HE0.out; have h3 : D.num (.str n3) = 1 := rfl; omega)
      have hb1 : kk + 1 ≤ 1099511627776 := by have h1 := E1.out; have h2 := D.nums_take_le L (j * 12 + 1); have h3 := HNU.out; have h4 := HK.out; omega
      have hv1 : ∀ W, Rd W (D.mark (k + D.nums (L.take (j * 12 + 1))) (.int tk3)) [.int .i64 ((kk : Int) + 1)] [] := fun W => by rw [E1.out]; have := Rd.int_mk (w := W) (n := ((kk + 1 : Nat) : Int)) (by omega) (by omega); simpa [D.mark] using this
      have S2 : Hid (RowMk k L F' b o (j * 12 + 2) _) := hid ((S1.out.scalar HLL.out hL1 Rd.int_sc).2.2 _ hv1)
      have M2 := hid (M1.out.trans (Mk.set (o := o + (j * 12 + 1)) (.int .i64 ((kk : Int) + 1)) (List.mem_cons_self)))
      have E2 := hid (show k + D.nums (L.take (j * 12 + 2)) = kk + 1 + 1 by have h1 : D.nums (L.take (j * 12 + 2)) = _ := D.nums_take L _ _ hL1; have h2 := E1.out; have h3 : D.num (.int tk3) = 1 := rfl; omega)
      have hb2 : kk + 1 + 1 ≤ 1099511627776 := by have h1 := E2.out; have h2 := D.nums_take_le L (j * 12 + 2); have h3 := HNU.out; have h4 := HK.out; omega
      have hT2 := fun W => mark_Text (kk + 1 + 1) (by omega) W
      rw [show ((kk + 1 + 1 : Nat) : Int) = (kk : Int) + 1 + 1 from by omega] at hT2
      have HT2 := hid hT2
      clear hT2
      go_wp2_with fail
      refine (HT2.out _).mono ?_
      rintro e u2 ⟨rfl, hbb⟩
      have T2 := hid (S2.out.below hbb)
      have N2 := hid (M2.out.trans (Mk.of_below hbb))
      clear hbb c0' z0' c1' z1'
      obtain ⟨v2, G2, c2, z2, r2⟩ := T2.out.peek HLL.out (j * 12 + 2) (by omega) hL2
      have c2' : u2.cell? ⟨b, o + j * 12 + 2, none⟩ = some v2 := c2
      have z2' : u2.frozen? ⟨b, o + j * 12 + 2, none⟩ = false := z2
      have hv2 : ∀ W, Rd W (D.mark (k + D.nums (L.take (j * 12 + 2))) (.str tn3)) [.string (mtxt (kk + 1 + 1))] [] := fun W => by rw [E2.out]; have := Rd.str_mk (w := W) (s := mtxt (kk + 1 + 1)) (by have := mtxt_size (kk + 1 + 1); omega); simpa [D.mark] using this
      have S3 : Hid (RowMk k L F' b o (j * 12 + 3) _) := hid ((T2.out.scalar HLL.out hL2 Rd.str_sc).2.2 _ hv2)
      have M3 := hid (N2.out.trans (Mk.set (o := o + (j * 12 + 2)) (.string (mtxt (kk + 1 + 1))) (List.mem_cons_self)))
      have E3 := hid (show k + D.nums (L.take (j * 12 + 3)) = kk + 1 + 1 + 1 by have h1 : D.nums (L.take (j * 12 + 3)) = _ := D.nums_take L _ _ hL2; have h2 := E2.out; have h3 : D.num (.str tn3) = 1 := rfl; omega)
      have hb3 : kk + 1 + 1 + 1 ≤ 1099511627776 := by have h1 := E3.out; have h2 := D.nums_take_le L (j * 12 + 3); have h3 := HNU.out; have h4 := HK.out; omega
      obtain ⟨y3, G3', c3'', r3', o3', s3', set3⟩ := S3.out.list HLL.out hL3
      obtain ⟨a3, n3, ee3, h23, h33, -⟩ := r3'.list_inv
      simp only [List.cons.injEq, and_true, Ty.ds_length] at ee3 h23
      obtain rfl := ee3
      have c3' : u2.cell? ⟨b, o + j * 12 + 3, none⟩ = some (.slice a3 tks3.length n3) := by have h := c3''; rw [cell_set_ne (by omega)] at h; exact h
      obtain ⟨kx3, hkx3⟩ : ∃ kx, kx = kk + 1 + 1 + 1 + D.nums (Ty.ds tks3) := ⟨_, rfl⟩
      have E4 := hid (show k + D.nums (L.take (j * 12 + 4)) = kx3 by have h1 : D.nums (L.take (j * 12 + 4)) = _ := D.nums_take L _ _ hL3; have h2 := E3.out; have h3 : D.num (.list (Ty.ds tks3)) = D.nums (Ty.ds tks3) := (by rw [D.num]); omega)
      have hb4 : kx3 ≤ 1099511627776 := by have h1 := E4.out; have h2 := D.nums_take_le L (j * 12 + 4); have h3 := HNU.out; have h4 := HK.out; omega
      have hc3 := markTys tks3 a3 n3 G3' (kk + 1 + 1 + 1) _ (by omega) (by omega) r3' o3'
      unfold MkPost at hc3
      rw [← hkx3] at hc3
      rw [show ((kk + 1 + 1 + 1 : Nat) : Int) = (kk : Int) + 1 + 1 + 1 from by omega] at hc3
      have HKX3 := hid hkx3
      clear hkx3
      have HC3 := hid hc3
      have HST3 := hid set3
      rw [E3.out] at HST3
      have HSU3 := hid s3'
      clear hc3 set3 s3' r3' o3' c3''
      go_wp2_with fail
      refine HC3.out.mono ?_
      rintro e u3 ⟨rfl, hrd, hmk⟩
      have S4 : Hid (RowMk k L F' b o (j * 12 + 4) _) := hid (HST3.out _ hmk hrd)
      have M4 := hid (M3.out.trans (hmk.mono fun x hx => List.mem_cons_of_mem _ (HSU3.out x hx)))
      clear hmk hrd HC3 HST3 c2' z2' c3'
      obtain ⟨v4, G4, c4, z4, r4⟩ := S4.out.peek HLL.out (j * 12 + 4) (by omega) hL4
      have c4' : u3.cell? ⟨b, o + j * 12 + 4, none⟩ = some v4 := c4
      have z4' : u3.frozen? ⟨b, o + j * 12 + 4, none⟩ = false := z4
      obtain ⟨v5, G5, c5, z5, r5⟩ := S4.out.peek HLL.out (j * 12 + 5) (by omega) hL5
      have c5' : u3.cell? ⟨b, o + j * 12 + 5, none⟩ = some v5 := c5
      have z5' : u3.frozen? ⟨b, o + j * 12 + 5, none⟩ = false := z5
      have hv4 : ∀ W, Rd W (D.mark (k + D.nums (L.take (j * 12 + 4))) (.int bk3)) [.int .i64 ((kx3 : Int))] [] := fun W => by rw [E4.out]; have := Rd.int_mk (w := W) (n := ((kx3 : Nat) : Int)) (by omega) (by omega); simpa [D.mark] using this
      have S5 : Hid (RowMk k L F' b o (j * 12 + 5) _) := hid ((S4.out.scalar HLL.out hL4 Rd.int_sc).2.2 _ hv4)
      have M5 := hid (M4.out.trans (Mk.set (o := o + (j * 12 + 4)) (.int .i64 ((kx3 : Int))) (List.mem_cons_self)))
      have E5 := hid (show k + D.nums (L.take (j * 12 + 5)) = kx3 + 1 by have h1 : D.nums (L.take (j * 12 + 5)) = _ := D.nums_take L _ _ hL4; have h2 := E4.out; have h3 : D.num (.int bk3) = 1 := rfl; omega)
      have hb5 : kx3 + 1 ≤ 1099511627776 := by have h1 := E5.out; have h2 := D.nums_take_le L (j * 12 + 5); have h3 := HNU.out; have h4 := HK.out; omega
      have hv5 : ∀ W, Rd W (D.mark (k + D.nums (L.take (j * 12 + 5))) (.int bu3)) [.int .i64 ((kx3 : Int) + 1)] [] := fun W => by rw [E5.out]; have := Rd.int_mk (w := W) (n := ((kx3 + 1 : Nat) : Int)) (by omega) (by omega); simpa [D.mark] using this
      have S6 : Hid (RowMk k L F' b o (j * 12 + 6) _) := hid ((S5.out.scalar HLL.out hL5 Rd.int_sc).2.2 _ hv5)
      have M6 := hid (M5.out.trans (Mk.set (o := o + (j * 12 + 5)) (.int .i64 ((kx3 : Int) + 1)) (List.mem_cons_self)))
      have E6 := hid (show k + D.nums (L.take (j * 12 + 6)) = kx3 + 1 + 1 by have h1 : D.nums (L.take (j * 12 + 6)) = _ := D.nums_take L _ _ hL5; have h2 := E5.out; have h3 : D.num (.int bu3) = 1 := rfl; omega)
      have hb6 : kx3 + 1 + 1 ≤ 1099511627776 := by have h1 := E6.out; have h2 := D.nums_take_le L (j * 12 + 6); have h3 := HNU.out; have h4 := HK.out; omega
      have hT6 := fun W => mark_Text (kx3 + 1 + 1) (by omega) W
      rw [show ((kx3 + 1 + 1 : Nat) : Int) = (kx3 : Int) + 1 + 1 from by omega] at hT6
      have HT6 := hid hT6
      clear hT6
      go_wp2_with fail
      refine (HT6.out _).mono ?_
      rintro e u6 ⟨rfl, hbb⟩
      have T6 := hid (S6.out.below hbb)
      have N6 := hid (M6.out.trans (Mk.of_below hbb))
      clear hbb c4' z4' c5' z5'
      obtain ⟨v6, G6, c6, z6, r6⟩ := T6.out.peek HLL.out (j * 12 + 6) (by omega) hL6
      have c6' : u6.cell? ⟨b, o + j * 12 + 6, none⟩ = some v6 := c6
      have z6' : u6.frozen? ⟨b, o + j * 12 + 6, none⟩ = false := z6
      obtain ⟨v7, G7, c7, z7, r7⟩ := T6.out.peek HLL.out (j * 12 + 7) (by omega) hL7
      have c7' : u6.cell? ⟨b, o + j * 12 + 7, none⟩ = some v7 := c7
      have z7' : u6.frozen? ⟨b, o + j * 12 + 7, none⟩ = false := z7
      have hv6 : ∀ W, Rd W (D.mark (k + D.nums (L.take (j * 12 + 6))) (.str bn3)) [.string (mtxt (kx3 + 1 + 1))] [] := fun W => by rw [E6.out]; have := Rd.str_mk (w := W) (s := mtxt (kx3 + 1 + 1)) (by have := mtxt_size (kx3 + 1 + 1); omega); simpa [D.mark] using this
      have S7 : Hid (RowMk k L F' b o (j * 12 + 7) _) := hid ((T6.out.scalar HLL.out hL6 Rd.str_sc).2.2 _ hv6)
      have M7 := hid (N6.out.trans (Mk.set (o := o + (j * 12 + 6)) (.string (mtxt (kx3 + 1 + 1))) (List.mem_cons_self)))
      have E7 := hid (show k + D.nums (L.take (j * 12 + 7)) = kx3 + 1 + 1 + 1 by have h1 : D.nums (L.take (j * 12 + 7)) = _ := D.nums_take L _ _ hL6; have h2 := E6.out; have h3 : D.num (.str bn3) = 1 := rfl; omega)
      have hb7 : kx3 + 1 + 1 + 1 ≤ 1099511627776 := by have h1 := E7.out; have h2 := D.nums_take_le L (j * 12 + 7); have h3 := HNU.out; have h4 := HK.out; omega
      have hv7 : ∀ W, Rd W (D.mark (k + D.nums (L.take (j * 12 + 7))) (.int btk3)) [.int .i64 ((kx3 : Int) + 1 + 1 + 1)] [] := fun W => by rw [E7.out]; have := Rd.int_mk (w := W) (n := ((kx3 + 1 + 1 + 1 : Nat) : Int)) (by omega) (by omega); simpa [D.mark] using this
      have S8 : Hid (RowMk k L F' b o (j * 12 + 8) _) := hid ((S7.out.scalar HLL.out hL7 Rd.int_sc).2.2 _ hv7)
      have M8 := hid (M7.out.trans (Mk.set (o := o + (j * 12 + 7)) (.int .i64 ((kx3 : Int) + 1 + 1 + 1)) (List.mem_cons_self)))
      have E8 := hid (show k + D.nums (L.take (j * 12 + 8)) = kx3 + 1 + 1 + 1 + 1 by have h1 : D.nums (L.take (j * 12 + 8)) = _ := D.nums_take L _ _ hL7; have h2 := E7.out; have h3 : D.num (.int btk3) = 1 := rfl; omega)
      have hb8 : kx3 + 1 + 1 + 1 + 1 ≤ 1099511627776 := by have h1 := E8.out; have h2 := D.nums_take_le L (j * 12 + 8); have h3 := HNU.out; have h4 := HK.out; omega
      have hT8 := fun W => mark_Text (kx3 + 1 + 1 + 1 + 1) (by omega) W
      rw [show ((kx3 + 1 + 1 + 1 + 1 : Nat) : Int) = (kx3 : Int) + 1 + 1 + 1 + 1 from by omega] at hT8
      have HT8 := hid hT8
      clear hT8
      go_wp2_with fail
      refine (HT8.out _).mono ?_
      rintro e u8 ⟨rfl, hbb⟩
      have T8 := hid (S8.out.below hbb)
      have N8 := hid (M8.out.trans (Mk.of_below hbb))
      clear hbb c6' z6' c7' z7'
      obtain ⟨v8, G8, c8, z8, r8⟩ := T8.out.peek HLL.out (j * 12 + 8) (by omega) hL8
      have c8' : u8.cell? ⟨b, o + j * 12 + 8, none⟩ = some v8 := c8
      have z8' : u8.frozen? ⟨b, o + j * 12 + 8, none⟩ = false := z8
      have hv8 : ∀ W, Rd W (D.mark (k + D.nums (L.take (j * 12 + 8))) (.str btn3)) [.string (mtxt (kx3 + 1 + 1 + 1 + 1))] [] := fun W => by rw [E8.out]; have := Rd.str_mk (w := W) (s := mtxt (kx3 + 1 + 1 + 1 + 1)) (by have := mtxt_size (kx3 + 1 + 1 + 1 + 1); omega); simpa [D.mark] using this
      have S9 : Hid (RowMk k L F' b o (j * 12 + 9) _) := hid ((T8.out.scalar HLL.out hL8 Rd.str_sc).2.2 _ hv8)
      have M9 := hid (N8.out.trans (Mk.set (o := o + (j * 12 + 8)) (.string (mtxt (kx3 + 1 + 1 + 1 + 1))) (List.mem_cons_self)))
      have E9 := hid (show k + D.nums (L.take (j * 12 + 9)) = kx3 + 1 + 1 + 1 + 1 + 1 by have h1 : D.nums (L.take (j * 12 + 9)) = _ := D.nums_take L _ _ hL8; have h2 := E8.out; have h3 : D.num (.str btn3) = 1 := rfl; omega)
      have hb9 : kx3 + 1 + 1 + 1 + 1 + 1 ≤ 1099511627776 := by have h1 := E9.out; have h2 := D.nums_take_le L (j * 12 + 9); have h3 := HNU.out; have h4 := HK.out; omega
      obtain ⟨y9, G9', c9'', r9', o9', s9', set9⟩ := S9.out.list HLL.out hL9
      obtain ⟨a9, n9, ee9, h29, h39, -⟩ := r9'.list_inv
      simp only [List.cons.injEq, and_true, Ty.ds_length] at ee9 h29
      obtain rfl := ee9
      have c9' : u8.cell? ⟨b, o + j * 12 + 9, none⟩ = some (.slice a9 btks3.length n9) := by have h := c9''; rw [cell_set_ne (by omega)] at h; exact h
      obtain ⟨kx9, hkx9⟩ : ∃ kx, kx = kx3 + 1 + 1 + 1 + 1 + 1 + D.nums (Ty.ds btks3) := ⟨_, rfl⟩
      have E10 := hid (show k + D.nums (L.take (j * 12 + 10)) = kx9 by have h1 : D.nums (L.take (j * 12 + 10)) = _ := D.nums_take L _ _ hL9; have h2 := E9.out; have h3 : D.num (.list (Ty.ds btks3)) = D.nums (Ty.ds btks3) := (by rw [D.num]); omega)
      have hb10 : kx9 ≤ 1099511627776 := by have h1 := E10.out; have h2 := D.nums_take_le L (j * 12 + 10); have h3 := HNU.out; have h4 := HK.out; omega
      have hc9 := markTys btks3 a9 n9 G9' (kx3 + 1 + 1 + 1 + 1 + 1) _ (by omega) (by omega) r9' o9'
      unfold MkPost at hc9
      rw [← hkx9] at hc9
      rw [show ((kx3 + 1 + 1 + 1 + 1 + 1 : Nat) : Int) = (kx3 : Int) + 1 + 1 + 1 + 1 + 1 from by omega] at hc9
      have HKX9 := hid hkx9
      clear hkx9
      have HC9 := hid hc9
      have HST9 := hid set9
      rw [E9.out] at HST9
      have HSU9 := hid s9'
      clear hc9 set9 s9' r9' o9' c9''
      go_wp2_with fail
      refine HC9.out.mono ?_
      rintro e u9 ⟨rfl, hrd, hmk⟩
      have S10 : Hid (RowMk k L F' b o (j * 12 + 10) _) := hid (HST9.out _ hmk hrd)
      have M10 := hid (M9.out.trans (hmk.mono fun x hx => List.mem_cons_of_mem _ (HSU9.out x hx)))
      clear hmk hrd HC9 HST9 c8' z8' c9'
      obtain ⟨y10, G10', c10'', r10', o10', s10', set10⟩ := S10.out.list HLL.out hL10
      obtain ⟨a10, n10, ee10, h210, h310, -⟩ := r10'.list_inv
      simp only [List.cons.injEq, and_true, Sr.ds_length] at ee10 h210
      obtain rfl := ee10
      have c10' : u9.cell? ⟨b, o + j * 12 + 10, none⟩ = some (.slice a10 bns3.length n10) := by have h := c10''; exact h
      obtain ⟨kx10, hkx10⟩ : ∃ kx, kx = kx9 + D.nums (Sr.ds bns3) := ⟨_, rfl⟩
      have E11 := hid (show k + D.nums (L.take (j * 12 + 11)) = kx10 by have h1 : D.nums (L.take (j * 12 + 11)) = _ := D.nums_take L _ _ hL10; have h2 := E10.out; have h3 : D.num (.list (Sr.ds bns3)) = D.nums (Sr.ds bns3) := (by rw [D.num]); omega)
      have hb11 : kx10 ≤ 1099511627776 := by have h1 := E11.out; have h2 := D.nums_take_le L (j * 12 + 11); have h3 := HNU.out; have h4 := HK.out; omega
      have hc10 := markSrs bns3 a10 n10 G10' (kx9) _ (by omega) (by omega) r10' o10'
      unfold MkPost at hc10
      rw [← hkx10] at hc10
      have HKX10 := hid hkx10
      clear hkx10
      have HC10 := hid hc10
      have HST10 := hid set10
      rw [E10.out] at HST10
      have HSU10 := hid s10'
      clear hc10 set10 s10' r10' o10' c10''
      go_wp2_with fail
      refine HC10.out.mono ?_
      rintro e u10 ⟨rfl, hrd, hmk⟩
      have S11 : Hid (RowMk k L F' b o (j * 12 + 11) _) := hid (HST10.out _ hmk hrd)
      have M11 := hid (M10.out.trans (hmk.mono fun x hx => List.mem_cons_of_mem _ (HSU10.out x hx)))
      clear hmk hrd HC10 HST10 c10'
      obtain ⟨y11, G11', c11'', r11', o11', s11', set11⟩ := S11.out.list HLL.out hL11
      obtain ⟨a11, n11, ee11, h211, h311, -⟩ := r11'.list_inv
      simp only [List.cons.injEq, and_true, Tm.ds_length] at ee11 h211
      obtain rfl := ee11
      have c11' : u10.cell? ⟨b, o + j * 12 + 11, none⟩ = some (.slice a11 bks3.length n11) := by have h := c11''; exact h
      obtain ⟨kx11, hkx11⟩ : ∃ kx, kx = kx10 + D.nums (Tm.ds bks3) := ⟨_, rfl⟩
      have E12 := hid (show k + D.nums (L.take (j * 12 + 12)) = kx11 by have h1 : D.nums (L.take (j * 12 + 12)) = _ := D.nums_take L _ _ hL11; have h2 := E11.out; have h3 : D.num (.list (Tm.ds bks3)) = D.nums (Tm.ds bks3) := (by rw [D.num]); omega)
      have hb12 : kx11 ≤ 1099511627776 := by have h1 := E12.out; have h2 := D.nums_take_le L (j * 12 + 12); have h3 := HNU.out; have h4 := HK.out; omega
      have hc11 := markTms bks3 a11 n11 G11' (kx10) _ (by omega) (by omega) r11' o11'
      unfold MkPost at hc11
      rw [← hkx11] at hc11
      have HKX11 := hid hkx11
      clear hkx11
      have HC11 := hid hc11
      have HST11 := hid set11
      rw [E11.out] at HST11
      have HSU11 := hid s11'
      clear hc11 set11 s11' r11' o11' c11''
      go_wp2_with fail
      refine HC11.out.mono ?_
      rintro e u11 ⟨rfl, hrd, hmk⟩
      have S12 : Hid (RowMk k L F' b o (j * 12 + 12) _) := hid (HST11.out _ hmk hrd)
      have M12 := hid (M11.out.trans (hmk.mono fun x hx => List.mem_cons_of_mem _ (HSU11.out x hx)))
      clear hmk hrd HC11 HST11 c11'
      go_wp2_with fail
      go_roundw
      case rel => exact ⟨j + 1, kx11, by omega, by go_num, by go_num, by rw [Nat.succ_mul]; exact E12, by rw [Nat.succ_mul]; exact S12, M12⟩
      case measure => simp [intOf]; omega
theorem Df.num_le : ∀ t : Df, D.num (Df.d t) ≤ 8 + 8 * Df.bulk t
  | .mk n t b => by have h1 := Ty.num_le t; have h2 := Tm.num_le b; simp only [Df.d, D.num, D.nums, Df.bulk] at *; omega
theorem Df.nums_le : ∀ ts : List Df, D.nums (Df.ds ts) ≤ 8 * Df.bulks ts
  | [] => by simp [Df.ds, D.nums]
  | t :: ts => by have h1 := Df.num_le t; have h2 := Df.nums_le ts; simp only [Df.ds, D.nums, Df.bulks]; omega
end Go.Proofs.YtgpefnlpbjnjbaaGreat
