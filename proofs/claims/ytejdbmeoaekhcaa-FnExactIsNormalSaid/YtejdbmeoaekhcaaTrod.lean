/- What a law's arguments read as: from the form's reading to data. Over whatever program. No condition. -/
import Derived.Test.YtejdbmeoaekhcaaMem
namespace Go.Proofs.Ytejdbmeoaekhcaa
open Go.RowKit

def contigB (P : Program) : Nat → List Field → Nat → Bool
  | o, [], tot => o == tot
  | o, f :: fs, tot => f.offset == o && contigB P (o + P.cellsOf f.type) fs tot
/-- Types of plain data, closed in themselves. -/
def okTy (P : Program) (S : List TypeId) (t : TypeId) : Bool :=
  match P.underlying t with
  | some (.int k) => k == .i64
  | some .bool => true
  | some .string => true
  | some (.slice e) => S.contains e && decide (1 ≤ P.cellsOf e)
  | some (.struct fs) => fs.toList.all (fun f => S.contains f.type) && contigB P 0 fs.toList (P.cellsOf t)
  | _ => false

def TypedFs (r : TypeId → D → Prop) : List Field → List D → Prop
  | [], [] => True
  | f :: fs, d :: ds => r f.type d ∧ TypedFs r fs ds
  | _, _ => False
/-- The datum has the type's shape. -/
def Typed (P : Program) : Nat → TypeId → D → Prop
  | 0, _, _ => False
  | n + 1, t, d =>
    match P.underlying t with
    | some (.int _) => ∃ k, d = .int k
    | some .bool => ∃ b, d = .bool b
    | some .string => ∃ s, d = .str s
    | some (.slice e) => ∃ ds, d = .list ds ∧ ∀ x ∈ ds, Typed P n e x
    | some (.struct fs) => ∃ ds, d = .struct ds ∧ TypedFs (Typed P n) fs.toList ds
    | _ => False

theorem all_cells {w : World} {b o m : Nat} {len : Nat} {f : Nat → List Value} {ds : Nat → D} {Fs : Nat → List Nat}
    (h : ∀ i, i < len → (f i).length = m ∧ Cells w b (o + i * m) (f i) ∧ Rd w (ds i) (f i) (Fs i)) :
    ∃ xs F, xs.length = len * m ∧ Cells w b o xs ∧ RdAll w ((List.range len).map ds) xs F := by
  induction len with
  | zero => exact ⟨[], [], by simp, fun j v hj => by simp at hj, RdAll.nil⟩
  | succ len ih =>
    obtain ⟨xs, F, h0, h1, h2⟩ := ih fun i hi => h i (by omega)
    obtain ⟨k0, k1, k2⟩ := h len (by omega)
    refine ⟨xs ++ f len, F ++ Fs len, by rw [List.length_append, h0, k0, Nat.succ_mul], fun j v hj => ?_, ?_⟩
    · by_cases hl : j < xs.length
      · rw [List.getElem?_append_left hl] at hj; exact h1 j v hj
      · rw [List.getElem?_append_right (by omega)] at hj
        have := k1 _ v hj
        rw [h0] at this hl
        rw [show o + j = o + len * m + (j - len * m) by omega]; exact this
    · rw [List.range_succ, List.map_append]
      exact h2.append (RdAll.one k2)

section
variable {H : Type} {enc : TypeId × Value → H} {P : Program} {w : World} {S : List TypeId}

theorem struct_rd {n : Nat} {r : TypeId → List Value → Option (DataW H × List MemPlace)} {cs : List Value}
    (ih : ∀ t cs x, t ∈ S → r t cs = some x → cs.length = P.cellsOf t ∧ ∃ d F, Rd w d cs F ∧ Typed P n t d) :
    ∀ (fs : List Field) (o : Nat) (xs : List (DataW H × List MemPlace)), (∀ f ∈ fs, f.type ∈ S) → contigB P o fs cs.length = true →
      (∀ (i : Nat) (f : Field), fs[i]? = some f → r f.type ((cs.drop f.offset).take (P.cellsOf f.type)) = xs[i]?) → xs.length = fs.length →
      ∃ ds F, RdAll w ds (cs.drop o) F ∧ TypedFs (Typed P n) fs ds
  | [], o, xs, _, hc, _, _ => by
    simp only [contigB, beq_iff_eq] at hc
    exact ⟨[], [], by rw [hc, List.drop_length]; exact RdAll.nil, trivial⟩
  | f :: fs, o, xs, hS, hc, hx, hl => by
    simp only [contigB, Bool.and_eq_true, beq_iff_eq] at hc
    obtain ⟨rfl, hc⟩ := hc
    match xs, hl with
    | x :: xs, hl =>
      have h0 := hx 0 f rfl
      simp only [List.getElem?_cons_zero] at h0
      obtain ⟨k0, d, F, k1, k2⟩ := ih _ _ _ (hS f (by simp)) h0
      obtain ⟨ds, G, k3, k4⟩ := struct_rd ih fs (f.offset + P.cellsOf f.type) xs (fun g hg => hS g (by simp [hg])) hc (fun i g hg => by have := hx (i + 1) g (by simpa using hg); simpa using this) (by simpa using hl)
      refine ⟨d :: ds, F ++ G, ?_, k2, k4⟩
      have e : cs.drop f.offset = (cs.drop f.offset).take (P.cellsOf f.type) ++ cs.drop (f.offset + P.cellsOf f.type) := by
        rw [← List.drop_drop, List.take_append_drop]
      rw [e]
      exact RdAll.cons k1 k3

theorem trod_rd (hS : S.all (okTy P S) = true) (hcell : S.all (fun t => match P.underlying t with | some (.int _) => P.cellsOf t == 1 | some .bool => P.cellsOf t == 1 | some .string => P.cellsOf t == 1 | some (.slice _) => P.cellsOf t == 1 | _ => true) = true) :
    ∀ (fuel : Nat) (t : TypeId) (cs : List Value) (x : DataW H × List MemPlace), t ∈ S → DataW.trod enc P w 0 (fun _ => true) true fuel t cs = some x → cs.length = P.cellsOf t ∧ ∃ d F, Rd w d cs F ∧ Typed P fuel t d := by
  intro fuel
  induction fuel with
  | zero => intro t cs x _ h; simp [DataW.trod] at h
  | succ n ih =>
    intro t cs x ht h
    have hok := List.all_eq_true.1 hS t ht
    have hce := List.all_eq_true.1 hcell t ht
    unfold okTy at hok
    split at hok
    · rename_i k hu
      obtain rfl : k = .i64 := by simpa using hok
      obtain ⟨m, rfl, rfl, hwf⟩ := DataW.trod_int hu h
      simp only [hu, beq_iff_eq] at hce
      refine ⟨by simp [hce], .int m, [], ?_, by unfold Typed; rw [hu]; exact ⟨m, rfl⟩⟩
      have := hwf
      simp [Lit.wf, IntKind.min, IntKind.max, IntKind.bits, IntKind.signed] at this
      exact Rd.int_mk (by omega) (by omega)
    · rename_i hu
      obtain ⟨b, rfl, rfl⟩ := DataW.trod_bool hu h
      simp only [hu, beq_iff_eq] at hce
      exact ⟨by simp [hce], .bool b, [], Rd.bool_mk, by unfold Typed; rw [hu]; exact ⟨b, rfl⟩⟩
    · rename_i hu
      obtain ⟨s, rfl, rfl, hs⟩ := DataW.trod_string hu h
      simp only [hu, beq_iff_eq] at hce
      exact ⟨by simp [hce], .str s, [], Rd.str_mk (by unfold maxLen at hs; omega), by unfold Typed; rw [hu]; exact ⟨s, rfl⟩⟩
    · rename_i e hu
      simp only [hu, beq_iff_eq] at hce
      simp only [Bool.and_eq_true, decide_eq_true_eq] at hok
      have heS : e ∈ S := by simpa using hok.1
      rcases DataW.trod_slice hu h with ⟨rfl, rfl⟩ | ⟨a, len, cap, elems, rest, m, hm, rfl, rfl, hb, hl, hc, hel, hg, _, _⟩
      · exact ⟨by simp [hce], .list [], [], Rd.nil_mk (by omega), by unfold Typed; rw [hu]; exact ⟨[], rfl, fun x hx => by simp at hx⟩⟩
      · obtain rfl : n = m := by omega
        have key : ∀ i, i < len → ∃ c d F, w.cells? 0 (a.add (i * P.cellsOf e)) (P.cellsOf e) = some c ∧ Rd w d c F ∧ Typed P n e d := fun i hi => by
          have h1 := hg i hi
          rw [List.getElem?_eq_getElem (by omega)] at h1
          obtain ⟨c, k1, k2⟩ := Option.bind_eq_some_iff.1 h1
          obtain ⟨_, d, F, k3, k4⟩ := ih e c _ heS k2
          exact ⟨c, d, F, k1, k3, k4⟩
        have hcap : cap ≤ 9223372036854775807 := by unfold maxLen at hc; omega
        refine ⟨by simp [hce], ?_⟩
        by_cases h0 : len = 0
        · subst h0
          exact ⟨.list [], [], Rd.nil_mk hcap, by unfold Typed; rw [hu]; exact ⟨[], rfl, fun x hx => by simp at hx⟩⟩
        · classical
          have key' : ∀ i, ∃ p : List Value × D × List Nat, i < len → w.cells? 0 (a.add (i * P.cellsOf e)) (P.cellsOf e) = some p.1 ∧ Rd w p.2.1 p.1 p.2.2 ∧ Typed P n e p.2.1 := fun i => by
            by_cases hi : i < len
            · obtain ⟨c, d, F, k⟩ := key i hi; exact ⟨(c, d, F), fun _ => k⟩
            · exact ⟨([], .int 0, []), fun h => absurd h hi⟩
          obtain ⟨f, hf⟩ := Classical.skolem.1 key'
          have hspot : a.spot = none := by
            obtain ⟨_, q2, q3⟩ := World.cells?_some (hf 0 (by omega)).1
            have := q3 0 (by omega)
            rw [Nat.zero_mul] at this
            have hlt : 0 < (f 0).1.length := by rw [q2]; omega
            rw [List.getElem?_eq_getElem hlt] at this
            simp only [Addr.add, if_pos] at this
            unfold World.cell? at this
            split at this
            · split at this
              · cases this
              · rename_i hsp; simpa using hsp
            · cases this
          obtain ⟨blk, off, spot⟩ := a
          obtain rfl : spot = none := hspot
          have hadd : ∀ b o j : Nat, (Addr.mk b o none).add j = ⟨b, o + j, none⟩ := fun b o j => by
            unfold Addr.add
            split
            · rename_i hj; subst hj; rfl
            · rfl
          have hcells : ∀ i, i < len → (f i).1.length = P.cellsOf e ∧ Cells w blk (off + i * P.cellsOf e) (f i).1 ∧ Rd w (f i).2.1 (f i).1 (f i).2.2 := fun i hi => by
            obtain ⟨q1, q2, q3⟩ := World.cells?_some (hf i hi).1
            refine ⟨q2, fun j v hj => ?_, (hf i hi).2.1⟩
            have hjl : j < P.cellsOf e := by rw [← q2]; exact (List.getElem?_eq_some_iff.1 hj).1
            have := q3 j hjl
            rw [hadd, hadd, hj] at this
            exact this
          obtain ⟨xs, F, g0, g1, g2⟩ := all_cells hcells
          have hblk : blk < w.heap.size := by
            obtain ⟨v, hv⟩ : ∃ v, xs[0]? = some v := ⟨_, List.getElem?_eq_getElem (by rw [g0]; exact Nat.mul_pos (by omega) (by omega))⟩
            exact block_lt_of_cell (g1 0 v hv)
          refine ⟨.list ((List.range len).map fun i => (f i).2.1), blk :: F, ?_, by unfold Typed; rw [hu]; exact ⟨_, rfl, fun x hx => by obtain ⟨i, hi, rfl⟩ := List.mem_map.1 hx; exact (hf i (by simpa using hi)).2.2⟩⟩
          have := Rd.list_mk (w := w) (ds := (List.range len).map fun i => (f i).2.1) (b := blk) (o := off) (cap := cap) (xs := xs) (F := F) (by simp; exact h0) (by simpa using hl) hcap hblk g1 g2
          simpa using this
    · rename_i fs hu
      simp only [Bool.and_eq_true] at hok
      obtain ⟨xs, m, hm, rfl, hl, hxl, hx⟩ := DataW.trod_struct hu h
      obtain rfl : n = m := by omega
      obtain ⟨ds, F, k1, k2⟩ := struct_rd (P := P) (w := w) (S := S) (n := n) (cs := cs) ih fs.toList 0 xs (fun f hf => by have := List.all_eq_true.1 hok.1 f hf; simpa using this) (by rw [hl]; exact hok.2) (fun i f hf => hx i f (by simpa using hf)) (by simpa using hxl)
      exact ⟨hl, .struct ds, F, Rd.struct_mk (by simpa using k1), by unfold Typed; rw [hu]; exact ⟨ds, rfl, k2⟩⟩
    · cases hok
end
end Go.Proofs.Ytejdbmeoaekhcaa
