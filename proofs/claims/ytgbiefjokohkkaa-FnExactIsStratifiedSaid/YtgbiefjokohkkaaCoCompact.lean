/- Cores: what slices.Compact says of a list of levels; fresh lists of levels. -/
import Derived.Test.YtgbiefjokohkkaaCoLevI
import Derived.Test.YtgbiefjokohkkaaShelf
namespace Go.Proofs.Ytgbiefjokohkkaa
open Go.ChangeShapes Go.WideShapes Go.ChangeAt Go.RowKit Go.BigFrame
open Go.Sort (grow)
set_option linter.unusedVariables false

def allSame : List Int → Bool
  | [] => true
  | x :: l => allEq l x
theorem allEq_iff (l : List Int) (n : Int) : allEq l n = true ↔ ∀ (j : Nat) x, l[j]? = some x → x = n := by
    constructor
    · intro h j x hj
      by_cases e : x = n
      · exact e
      · rw [allEq_no l n j x hj e] at h; simp at h
    · exact allEq_yes l n
theorem allSame_adj (x : Int) (l : List Int) : allEq l x = true ↔ ∀ (j : Nat), j < l.length → (x :: l)[j + 1]! = (x :: l)[j]! := by
    rw [allEq_iff]
    constructor
    · intro h j hj
      have e : ∀ i, i ≤ l.length → (x :: l)[i]! = x := fun i hi => by
        cases i with
        | zero => rfl
        | succ i =>
          have h1 : l[i]? = some l[i] := List.getElem?_eq_getElem (by omega)
          have := h i _ h1
          rw [List.getElem!_eq_getElem?_getD, List.getElem?_cons_succ, h1]
          exact this
      rw [e _ (by omega), e _ (by omega)]
    · intro h
      have e : ∀ i, i ≤ l.length → (x :: l)[i]! = x := fun i => by
        induction i with
        | zero => intro _; rfl
        | succ i ih => intro hi; rw [h i (by omega), ih (by omega)]
      intro j y hj
      have hl : j < l.length := (List.getElem?_eq_some_iff.1 hj).1
      have := e (j + 1) (by omega)
      rw [List.getElem!_eq_getElem?_getD, List.getElem?_cons_succ, hj] at this
      exact this
theorem compact_cons (x : Int) (l : List Int) : ∃ r, Lib.compact (x :: l) = x :: r ∧ (r = [] ↔ allEq l x = true) := by
  refine ⟨(((List.range l.length).map Nat.succ).filter (Lib.keeps (x :: l).toArray)).map ((x :: l).toArray[·]!), ?_, ?_⟩
  · rw [Lib.compact, Lib.compactUpTo, List.length_cons, List.range_succ_eq_map, List.filter_cons_of_pos (by simp [Lib.keeps]), List.map_cons]
    simp
  · rw [allSame_adj, List.map_eq_nil_iff, List.filter_eq_nil_iff]
    constructor
    · intro h j hj
      have := h (j + 1) (List.mem_map.2 ⟨j, List.mem_range.2 hj, rfl⟩)
      simpa [Lib.keeps] using this
    · intro h a ha
      obtain ⟨j, hj, rfl⟩ := List.mem_map.1 ha
      have := h j (List.mem_range.1 hj)
      simpa [Lib.keeps] using this
theorem compact_test (x : Int) (L : List Int) : decide ((1 : Int) < (Lib.compact (x :: L)).length) = (!allEq L x) := by
  obtain ⟨r, hr1, hr2⟩ := compact_cons x L
  rw [hr1]
  by_cases ha : allEq L x = true
  · rw [ha, hr2.2 ha]; rfl
  · rw [(Bool.not_eq_true _).mp ha]
    have : r ≠ [] := fun h => ha (hr2.1 h)
    have : 0 < r.length := List.length_pos_iff.2 this
    simp; omega
theorem let_same {x : Int} {l : List Int} {n : Int} (h : allEq l x = true) : letOk (x :: l) n = (decide (x = n) || decide (x = n + 1)) := by
  have e : ∀ m, allEq (x :: l) m = decide (x = m) := fun m => by
    by_cases hm : x = m
    · subst hm; rw [allEq, h]; simp
    · rw [allEq]; simp [hm]
  rw [letOk, e, e]
theorem let_diff {x : Int} {l : List Int} {n : Int} (h : allEq l x = false) : letOk (x :: l) n = false := by
  have e : ∀ m, allEq (x :: l) m = false := fun m => by
    by_cases hm : x = m
    · subst hm; rw [allEq, h]; simp
    · rw [allEq]; simp [hm]
  rw [letOk, e, e]; rfl

/-- A fresh list of levels: none. -/
theorem impl_lev_nil (k1 : Int) (v1 : Int) (ds1 : List Int) (ks1 : List Co) (ads1 : Option Addr) (cds1 : Nat) (aks1 : Option Addr) (cks1 : Nat) (l : Int) (w : World) (hl : 0 ≤ l) (hl2 : l ≤ 9) (hM : Co.bulk (Co.mk k1 v1 ds1 ks1) ≤ 1048576) (hg : Co.good (Co.mk k1 v1 ds1 ks1) = true) (hr : RdS w (Co.d (Co.mk k1 v1 ds1 ks1)) [.int .i64 k1, .int .i64 v1, .slice ads1 ds1.length cds1, .slice aks1 ks1.length cks1]) (hL : Co.lev (Co.mk k1 v1 ds1 ks1) 0 l = []) :
    Calls Try.prog 108 #[.agg #[.int .i64 k1, .int .i64 v1, .slice ads1 ds1.length cds1, .slice aks1 ks1.length cks1], .int .i64 0, .int .i64 l, .slice none 0 0] w fun e w' => ∃ a c, e = .returned (.slice a 0 c) ∧ Below w.heap.size w w' :=
  (lvi_all (Co.bulk (Co.mk k1 v1 ds1 ks1) + 1) w k1 v1 ds1 ks1 ads1 cds1 aks1 cks1 0 l (.slice none 0 0) [] w (by omega) (by omega) (by omega) hl (by omega) (by simp; omega) hg hr (Below.refl _ _) (World.ownsRow_nil _ _ _ _)).mono
    fun e w' h => by obtain ⟨a, c, h1, h2, h3, -⟩ := lev_res ⟨hl, by omega⟩ hM h; rw [hL] at h1; exact ⟨a, c, h1, h3⟩
/-- A fresh list of levels: some. -/
theorem impl_lev_cons (k1 : Int) (v1 : Int) (ds1 : List Int) (ks1 : List Co) (ads1 : Option Addr) (cds1 : Nat) (aks1 : Option Addr) (cks1 : Nat) (l x : Int) (L : List Int) (n : Nat) (w : World) (hl : 0 ≤ l) (hl2 : l ≤ 9) (hM : Co.bulk (Co.mk k1 v1 ds1 ks1) ≤ 1048576) (hg : Co.good (Co.mk k1 v1 ds1 ks1) = true) (hr : RdS w (Co.d (Co.mk k1 v1 ds1 ks1)) [.int .i64 k1, .int .i64 v1, .slice ads1 ds1.length cds1, .slice aks1 ks1.length cks1]) (hL : Co.lev (Co.mk k1 v1 ds1 ks1) 0 l = x :: L) (hn : L.length + 1 = n) :
    Calls Try.prog 108 #[.agg #[.int .i64 k1, .int .i64 v1, .slice ads1 ds1.length cds1, .slice aks1 ks1.length cks1], .int .i64 0, .int .i64 l, .slice none 0 0] w fun e w' => ∃ g c, e = .returned (.slice (some ⟨g, 0, none⟩) n c) ∧ w.heap.size ≤ g ∧ w'.cell? ⟨g, 0, none⟩ = some (.int .i64 x) ∧ Below w.heap.size w w' ∧ w'.ownsRow w.heap.size 2 1 (.slice (some ⟨g, 0, none⟩) n c) n ((x :: L).map (Value.int .i64)) :=
  (lvi_all (Co.bulk (Co.mk k1 v1 ds1 ks1) + 1) w k1 v1 ds1 ks1 ads1 cds1 aks1 cks1 0 l (.slice none 0 0) [] w (by omega) (by omega) (by omega) hl (by omega) (by simp; omega) hg hr (Below.refl _ _) (World.ownsRow_nil _ _ _ _)).mono
    fun e w' h => by
      obtain ⟨a, c, h1, h2, h3, h4⟩ := lev_res ⟨hl, by omega⟩ hM h
      rw [hL] at h1 h2 h4
      have hlen : (x :: L).length = n := by simpa using hn
      rw [hlen] at h1 h2 h4
      have h5 := h4
      rcases h4.2 with ⟨he, h0⟩ | ⟨g, cap, cur, he, hb, hh, hl1, hc1, hs1, ht1⟩
      · omega
      · simp only [Value.slice.injEq, true_and] at he
        obtain ⟨rfl, rfl⟩ := he
        refine ⟨g, c, h1, hb, ?_, h3, h5⟩
        have := h5.cells (g := g) rfl 0 (.int .i64 x) rfl
        simpa [Addr.add] using this
theorem grown_setCells (b : Nat) : ∀ (vs : List Value) (o : Nat) (w : World) (q : Nat), w.grownBy ((w.drewN q).setCells b o vs) (some b) := by
  have key : ∀ (vs : List Value) (o : Nat) (w : World), w.grownBy (w.setCells b o vs) (some b) := by
    intro vs
    induction vs with
    | nil => intro o w; exact ⟨rfl, rfl, rfl, Nat.le_refl _, fun _ _ _ => rfl⟩
    | cons v vs ih =>
      intro o w
      have h := ih (o + 1) (w.setCell ⟨b, o, none⟩ v)
      refine ⟨h.os, h.tape, h.output, Nat.le_trans (by simp [World.setCell]) h.size, fun k hk hne => ?_⟩
      exact (h.block k (by simpa [World.setCell] using hk) hne).trans (Below.heap_setCell w ⟨b, o, none⟩ v k (fun e => hne (by rw [e])))
  intro vs o w q
  have h := key vs o (w.drewN q)
  exact ⟨h.os, h.tape, h.output, h.size, h.block⟩
theorem impl_Compact (g n c : Nat) (x : Int) (L : List Int) (B : Nat) (w : World) (hB : B ≤ w.heap.size) (hn : L.length + 1 = n) (ho : w.ownsRow B 2 1 (.slice (some ⟨g, 0, none⟩) n c) n ((x :: L).map (Value.int .i64))) :
    Calls Try.prog 109 #[.slice (some ⟨g, 0, none⟩) n c] w fun e w' => e = .returned (.slice (some ⟨g, 0, none⟩) (Lib.compact (x :: L)).length c) ∧ w'.cell? ⟨g, 0, none⟩ = some (.int .i64 x) ∧ Below B w w' ∧ KeepT 2 w w' := by
  have ho1 := ho
  rcases ho.2 with ⟨he, h0⟩ | ⟨g', cap, cur, he, hb, hh, hl1, hc1, hs1, ht1⟩
  · simp at he
  · simp only [Value.slice.injEq, Option.some.injEq, Addr.mk.injEq, and_true, true_and] at he
    obtain ⟨rfl, rfl⟩ := he
    have hlen : (x :: L).length = n := by simpa using hn
    unfold maxLen at hc1
    have hk := Try.slices_Compact_int_cells g 0 n c (x :: L) w (by omega) (by omega) hl1
      (fun j hj => by
        have hj2 : ((x :: L).map (Value.int .i64))[j]? = some (.int .i64 ((x :: L).getD j 0)) := by
          rw [List.getElem?_map, List.getElem?_eq_getElem hj, List.getD_eq_getElem?_getD, List.getElem?_eq_getElem hj]; rfl
        have := ho1.cells (g := g) rfl j _ hj2
        rw [Addr.add_lit] at this
        simpa using this)
      (fun j hj => by simp [World.frozen?, hh])
    refine hk.mono ?_
    rintro e w' ⟨rfl, q, rfl⟩
    rw [List.take_of_length_le (by omega)]
    obtain ⟨r, hr1, hr2⟩ := compact_cons x L
    have hgr : w.grownBy ((w.drewN q).setCells g 0 ((Lib.compact (x :: L) ++ List.replicate (n - (Lib.compact (x :: L)).length) 0).map (Value.int .i64))) (Value.ownBlock (.slice (some ⟨g, 0, none⟩) n c)) := grown_setCells g _ 0 w q
    refine ⟨rfl, ?_, (Below.refl B w).grown hgr hB (fun k hk => (ho1.lt k hk).1), KeepT.of_grown ho1 hgr⟩
    · have hin := World.cell?_setCells_in g ((Lib.compact (x :: L) ++ List.replicate (n - (Lib.compact (x :: L)).length) 0).map (Value.int .i64)) 0 (w.drewN q) ?_ 0 ?_
      · rw [Nat.zero_add] at hin
        rw [hin]
        simp only [hr1, List.cons_append, List.map_cons, List.getElem_cons_zero]
      · intro j hj
        have hj2 : j < n := by
          simp only [hr1, List.length_map, List.length_append, List.length_replicate, List.length_cons] at hj
          have : (Lib.compact (x :: L)).length ≤ n := by
            have h1 : (Lib.compact (x :: L)).length ≤ (x :: L).length := by
              rw [Lib.compact, Lib.compactUpTo, List.length_map]
              exact Nat.le_trans (List.length_filter_le _ _) (by simp)
            omega
          rw [hr1, List.length_cons] at this
          omega
        have hcz : cur[j]? = some cur[j] := Array.getElem?_eq_getElem (by omega)
        simp [World.cell?, World.drewN, hh, hcz]
      · rw [hr1]; simp
end Go.Proofs.Ytgbiefjokohkkaa
