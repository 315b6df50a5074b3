/- FnExactIsFinished: for every input. No condition. -/
import Derived.Test.YtlbebnmhldolnaaMem
import Derived.Test.YtlbebnmhldolnaaSc
import Derived.Test.YtlbebnmhldolnaaDCo
import Derived.Test.YtlbebnmhldolnaaDBk
import Derived.Test.YtlbebnmhldolnaaSzCo
import Derived.Test.YtlbebnmhldolnaaToSc
import Derived.Test.YtlbebnmhldolnaaSzBk
import Derived.Lib.QuietBelow
import Derived.Test.YtlbebnmhldolnaaDCl
import Derived.Test.YtlbebnmhldolnaaDFr
import Derived.Test.YtlbebnmhldolnaaDTh
import Derived.Test.YtlbebnmhldolnaaDNe
import Derived.Test.YtlbebnmhldolnaaSzCl
import Derived.Test.YtlbebnmhldolnaaSzFr
import Derived.Test.YtlbebnmhldolnaaSzTh
import Derived.Test.YtlbebnmhldolnaaSzNe
import Derived.Test.YtlbebnmhldolnaaNdI4
import Derived.Deep.RegionHeld3
namespace Go.Proofs.Ytlbebnmhldolnaa
open Go.RowKit

def contigB (P : Program) : Nat → List Field → Nat → Bool
  | o, [], tot => o == tot
  | o, f :: fs, tot => f.offset == o && contigB P (o + P.cellsOf f.type) fs tot
/-- Types of plain data, closed in themselves. -/
def okTy (P : Program) (S : List TypeId) (t : TypeId) : Bool :=
  match P.underlying t with
  | some (.int k) => k == .i64
  | some .bool => true
  | some .string => true
  | some (.slice e) => S.contains e && decide (1 ≤ P.cellsOf e)
  | some (.struct fs) => fs.toList.all (fun f => S.contains f.type) && contigB P 0 fs.toList (P.cellsOf t)
  | _ => false

def TypedFs (r : TypeId → D → Prop) : List Field → List D → Prop
  | [], [] => True
  | f :: fs, d :: ds => r f.type d ∧ TypedFs r fs ds
  | _, _ => False
/-- The datum has the type's shape. -/
def Typed (P : Program) : Nat → TypeId → D → Prop
  | 0, _, _ => False
  | n + 1, t, d =>
    match P.underlying t with
    | some (.int _) => ∃ k, d = .int k
    | some .bool => ∃ b, d = .bool b
    | some .string => ∃ s, d = .str s
    | some (.slice e) => ∃ ds, d = .list ds ∧ ∀ x ∈ ds, Typed P n e x
    | some (.struct fs) => ∃ ds, d = .struct ds ∧ TypedFs (Typed P n) fs.toList ds
    | _ => False

theorem all_cells {w : World} {b o m : Nat} {len : Nat} {f : Nat → List Value} {ds : Nat → D} {Fs : Nat → List Nat}
    (h : ∀ i, i < len → (f i).length = m ∧ Cells w b (o + i * m) (f i) ∧ Rd w (ds i) (f i) (Fs i)) :
    ∃ xs F, xs.length = len * m ∧ Cells w b o xs ∧ RdAll w ((List.range len).map ds) xs F := by
  induction len with
  | zero => exact ⟨[], [], by simp, fun j v hj => by simp at hj, RdAll.nil⟩
  | succ len ih =>
    obtain ⟨xs, F, h0, h1, h2⟩ := ih fun i hi => h i (by omega)
    obtain ⟨k0, k1, k2⟩ := h len (by omega)
    refine ⟨xs ++ f len, F ++ Fs len, by rw [List.length_append, h0, k0, Nat.succ_mul], fun j v hj => ?_, ?_⟩
    · by_cases hl : j < xs.length
      · rw [List.getElem?_append_left hl] at hj; exact h1 j v hj
      · rw [List.getElem?_append_right (by omega)] at hj
        have := k1 _ v hj
        rw [h0] at this hl
        rw [show o + j = o + len * m + (j - len * m) by omega]; exact this
    · rw [List.range_succ, List.map_append]
      exact h2.append (RdAll.one k2)

section
variable {H : Type} {enc : TypeId × Value → H} {P : Program} {w : World} {S : List TypeId}

theorem struct_rd {n : Nat} {r : TypeId → List Value → Option (DataW H × List MemPlace)} {cs : List Value}
    (ih : ∀ t cs x, t ∈ S → r t cs = some x → cs.length = P.cellsOf t ∧ ∃ d F, Rd w d cs F ∧ Typed P n t d) :
    ∀ (fs : List Field) (o : Nat) (xs : List (DataW H × List MemPlace)), (∀ f ∈ fs, f.type ∈ S) → contigB P o fs cs.length = true →
      (∀ (i : Nat) (f : Field), fs[i]? = some f → r f.type ((cs.drop f.offset).take (P.cellsOf f.type)) = xs[i]?) → xs.length = fs.length →
      ∃ ds F, RdAll w ds (cs.drop o) F ∧ TypedFs (Typed P n) fs ds
  | [], o, xs, _, hc, _, _ => by
    simp only [contigB, beq_iff_eq] at hc
    exact ⟨[], [], by rw [hc, List.drop_length]; exact RdAll.nil, trivial⟩
  | f :: fs, o, xs, hS, hc, hx, hl => by
    simp only [contigB, Bool.and_eq_true, beq_iff_eq] at hc
    obtain ⟨rfl, hc⟩ := hc
    match xs, hl with
    | x :: xs, hl =>
      have h0 := hx 0 f rfl
      simp only [List.getElem?_cons_zero] at h0
      obtain ⟨k0, d, F, k1, k2⟩ := ih _ _ _ (hS f (by simp)) h0
      obtain ⟨ds, G, k3, k4⟩ := struct_rd ih fs (f.offset + P.cellsOf f.type) xs (fun g hg => hS g (by simp [hg])) hc (fun i g hg => by have := hx (i + 1) g (by simpa using hg); simpa using this) (by simpa using hl)
      refine ⟨d :: ds, F ++ G, ?_, k2, k4⟩
      have e : cs.drop f.offset = (cs.drop f.offset).take (P.cellsOf f.type) ++ cs.drop (f.offset + P.cellsOf f.type) := by
        rw [← List.drop_drop, List.take_append_drop]
      rw [e]
      exact RdAll.cons k1 k3

theorem trod_rd (hS : S.all (okTy P S) = true) (hcell : S.all (fun t => match P.underlying t with | some (.int _) => P.cellsOf t == 1 | some .bool => P.cellsOf t == 1 | some .string => P.cellsOf t == 1 | some (.slice _) => P.cellsOf t == 1 | _ => true) = true) :
    ∀ (fuel : Nat) (t : TypeId) (cs : List Value) (x : DataW H × List MemPlace), t ∈ S → DataW.trod enc P w 0 (fun _ => true) true fuel t cs = some x → cs.length = P.cellsOf t ∧ ∃ d F, Rd w d cs F ∧ Typed P fuel t d := by
  intro fuel
  induction fuel with
  | zero => intro t cs x _ h; simp [DataW.trod] at h
  | succ n ih =>
    intro t cs x ht h
    have hok := List.all_eq_true.1 hS t ht
    have hce := List.all_eq_true.1 hcell t ht
    unfold okTy at hok
    split at hok
    · rename_i k hu
      obtain rfl : k = .i64 := by simpa using hok
      obtain ⟨m, rfl, rfl, hwf⟩ := DataW.trod_int hu h
      simp only [hu, beq_iff_eq] at hce
      refine ⟨by simp [hce], .int m, [], ?_, by unfold Typed; rw [hu]; exact ⟨m, rfl⟩⟩
      have := hwf
      simp [Lit.wf, IntKind.min, IntKind.max, IntKind.bits, IntKind.signed] at this
      exact Rd.int_mk (by omega) (by omega)
    · rename_i hu
      obtain ⟨b, rfl, rfl⟩ := DataW.trod_bool hu h
      simp only [hu, beq_iff_eq] at hce
      exact ⟨by simp [hce], .bool b, [], Rd.bool_mk, by unfold Typed; rw [hu]; exact ⟨b, rfl⟩⟩
    · rename_i hu
      obtain ⟨s, rfl, rfl, hs⟩ := DataW.trod_string hu h
      simp only [hu, beq_iff_eq] at hce
      exact ⟨by simp [hce], .str s, [], Rd.str_mk (by unfold maxLen at hs; omega), by unfold Typed; rw [hu]; exact ⟨s, rfl⟩⟩
    · rename_i e hu
      simp only [hu, beq_iff_eq] at hce
      simp only [Bool.and_eq_true, decide_eq_true_eq] at hok
      have heS : e ∈ S := by simpa using hok.1
      rcases DataW.trod_slice hu h with ⟨rfl, rfl⟩ | ⟨a, len, cap, elems, rest, m, hm, rfl, rfl, hb, hl, hc, hel, hg, _, _⟩
      · exact ⟨by simp [hce], .list [], [], Rd.nil_mk (by omega), by unfold Typed; rw [hu]; exact ⟨[], rfl, fun x hx => by simp at hx⟩⟩
      · obtain rfl : n = m := by omega
        have key : ∀ i, i < len → ∃ c d F, w.cells? 0 (a.add (i * P.cellsOf e)) (P.cellsOf e) = some c ∧ Rd w d c F ∧ Typed P n e d := fun i hi => by
          have h1 := hg i hi
          rw [List.getElem?_eq_getElem (by omega)] at h1
          obtain ⟨c, k1, k2⟩ := Option.bind_eq_some_iff.1 h1
          obtain ⟨_, d, F, k3, k4⟩ := ih e c _ heS k2
          exact ⟨c, d, F, k1, k3, k4⟩
        have hcap : cap ≤ 9223372036854775807 := by unfold maxLen at hc; omega
        refine ⟨by simp [hce], ?_⟩
        by_cases h0 : len = 0
        · subst h0
          exact ⟨.list [], [], Rd.nil_mk hcap, by unfold Typed; rw [hu]; exact ⟨[], rfl, fun x hx => by simp at hx⟩⟩
        · classical
          have key' : ∀ i, ∃ p : List Value × D × List Nat, i < len → w.cells? 0 (a.add (i * P.cellsOf e)) (P.cellsOf e) = some p.1 ∧ Rd w p.2.1 p.1 p.2.2 ∧ Typed P n e p.2.1 := fun i => by
            by_cases hi : i < len
            · obtain ⟨c, d, F, k⟩ := key i hi; exact ⟨(c, d, F), fun _ => k⟩
            · exact ⟨([], .int 0, []), fun h => absurd h hi⟩
          obtain ⟨f, hf⟩ := Classical.skolem.1 key'
          have hspot : a.spot = none := by
            obtain ⟨_, q2, q3⟩ := World.cells?_some (hf 0 (by omega)).1
            have := q3 0 (by omega)
            rw [Nat.zero_mul] at this
            have hlt : 0 < (f 0).1.length := by rw [q2]; omega
            rw [List.getElem?_eq_getElem hlt] at this
            simp only [Addr.add, if_pos] at this
            unfold World.cell? at this
            split at this
            · split at this
              · cases this
              · rename_i hsp; simpa using hsp
            · cases this
          obtain ⟨blk, off, spot⟩ := a
          obtain rfl : spot = none := hspot
          have hadd : ∀ b o j : Nat, (Addr.mk b o none).add j = ⟨b, o + j, none⟩ := fun b o j => by
            unfold Addr.add
            split
            · rename_i hj; subst hj; rfl
            · rfl
          have hcells : ∀ i, i < len → (f i).1.length = P.cellsOf e ∧ Cells w blk (off + i * P.cellsOf e) (f i).1 ∧ Rd w (f i).2.1 (f i).1 (f i).2.2 := fun i hi => by
            obtain ⟨q1, q2, q3⟩ := World.cells?_some (hf i hi).1
            refine ⟨q2, fun j v hj => ?_, (hf i hi).2.1⟩
            have hjl : j < P.cellsOf e := by rw [← q2]; exact (List.getElem?_eq_some_iff.1 hj).1
            have := q3 j hjl
            rw [hadd, hadd, hj] at this
            exact this
          obtain ⟨xs, F, g0, g1, g2⟩ := all_cells hcells
          have hblk : blk < w.heap.size := by
            obtain ⟨v, hv⟩ : ∃ v, xs[0]? = some v := ⟨_, List.getElem?_eq_getElem (by rw [g0]; exact Nat.mul_pos (by omega) (by omega))⟩
            exact block_lt_of_cell (g1 0 v hv)
          refine ⟨.list ((List.range len).map fun i => (f i).2.1), blk :: F, ?_, by unfold Typed; rw [hu]; exact ⟨_, rfl, fun x hx => by obtain ⟨i, hi, rfl⟩ := List.mem_map.1 hx; exact (hf i (by simpa using hi)).2.2⟩⟩
          have := Rd.list_mk (w := w) (ds := (List.range len).map fun i => (f i).2.1) (b := blk) (o := off) (cap := cap) (xs := xs) (F := F) (by simp; exact h0) (by simpa using hl) hcap hblk g1 g2
          simpa using this
    · rename_i fs hu
      simp only [Bool.and_eq_true] at hok
      obtain ⟨xs, m, hm, rfl, hl, hxl, hx⟩ := DataW.trod_struct hu h
      obtain rfl : n = m := by omega
      obtain ⟨ds, F, k1, k2⟩ := struct_rd (P := P) (w := w) (S := S) (n := n) (cs := cs) ih fs.toList 0 xs (fun f hf => by have := List.all_eq_true.1 hok.1 f hf; simpa using this) (by rw [hl]; exact hok.2) (fun i f hf => hx i f (by simpa using hf)) (by simpa using hxl)
      exact ⟨hl, .struct ds, F, Rd.struct_mk (by simpa using k1), by unfold Typed; rw [hu]; exact ⟨ds, rfl, k2⟩⟩
    · cases hok
end
end Go.Proofs.Ytlbebnmhldolnaa

namespace Go.Proofs.Ytlbebnmhldolnaa
open Go.ChangeShapes Go.WideShapes Go.ChangeAt Go.RowKit
set_option linter.unusedVariables false

set_option maxRecDepth 100000 in
theorem typed_In : ∀ (n : Nat) (d : D), Typed Try.prog n 2 d → ∃ t : Int, d = In.d t
  | 0, _, h => by simp [Typed] at h
  | n + 1, d, h => by
    unfold Typed at h
    rw [Try.underlying2] at h
    exact h
set_option maxRecDepth 100000 in
theorem typed_Ins : ∀ (n : Nat) (d : D), Typed Try.prog n 28 d → ∃ ts : List Int, d = .list (In.ds ts)
  | 0, _, h => by simp [Typed] at h
  | n + 1, d, h => by
    unfold Typed at h
    rw [Try.underlying28] at h
    obtain ⟨ds, rfl, h⟩ := h
    have key : ∀ ds : List D, (∀ x ∈ ds, Typed Try.prog n 2 x) → ∃ ts, ds = In.ds ts := by
      intro ds
      induction ds with
      | nil => exact fun _ => ⟨[], rfl⟩
      | cons x xs ih =>
        intro hx
        obtain ⟨t, ht⟩ := typed_In n x (hx x (by simp))
        obtain ⟨ts, hts⟩ := ih fun y hy => hx y (by simp [hy])
        exact ⟨t :: ts, by rw [ht, hts]; rfl⟩
    obtain ⟨ts, rfl⟩ := key ds h
    exact ⟨ts, rfl⟩
set_option maxRecDepth 100000 in
theorem typed_Sr : ∀ (n : Nat) (d : D), Typed Try.prog n 9 d → ∃ t : ByteArray, d = Sr.d t
  | 0, _, h => by simp [Typed] at h
  | n + 1, d, h => by
    unfold Typed at h
    rw [Try.underlying9] at h
    exact h
set_option maxRecDepth 100000 in
theorem typed_Bo : ∀ (n : Nat) (d : D), Typed Try.prog n 4 d → ∃ t : Bool, d = Bo.d t
  | 0, _, h => by simp [Typed] at h
  | n + 1, d, h => by
    unfold Typed at h
    rw [Try.underlying4] at h
    exact h
end Go.Proofs.Ytlbebnmhldolnaa

namespace Go.Proofs.Ytlbebnmhldolnaa
open Go.ChangeShapes Go.WideShapes Go.ChangeAt Go.RowKit
set_option linter.unusedVariables false

set_option maxRecDepth 100000 in
mutual
theorem typed_Co : ∀ (n : Nat) (d : D), Typed Try.prog n 30 d → ∃ t : Co, d = Co.d t
  | 0, _, h => by simp [Typed] at h
  | n + 1, d, h => by
    unfold Typed at h
    rw [Try.underlying30] at h
    obtain ⟨ds, rfl, h⟩ := h
    match ds, h with
    | [d0, d1, d2, d3], ⟨h0, h1, h2, h3, _⟩ =>
      match n, h0, h1, h2, h3 with
      | n + 1, h0, h1, h2, h3 =>
        unfold Typed at h0
        rw [Try.underlying2] at h0
        obtain ⟨x0, rfl⟩ := h0
        unfold Typed at h1
        rw [Try.underlying2] at h1
        obtain ⟨x1, rfl⟩ := h1
        obtain ⟨x2, rfl⟩ := typed_Ins (n + 1) d2 h2
        obtain ⟨x3, rfl⟩ := typed_Cos (n + 1) d3 h3
        exact ⟨.mk x0 x1 x2 x3, rfl⟩
theorem typed_Cos : ∀ (n : Nat) (d : D), Typed Try.prog n 25 d → ∃ ts : List Co, d = .list (Co.ds ts)
  | 0, _, h => by simp [Typed] at h
  | n + 1, d, h => by
    unfold Typed at h
    rw [Try.underlying25] at h
    obtain ⟨ds, rfl, h⟩ := h
    have key : ∀ ds : List D, (∀ x ∈ ds, Typed Try.prog n 30 x) → ∃ ts, ds = Co.ds ts := by
      intro ds
      induction ds with
      | nil => exact fun _ => ⟨[], rfl⟩
      | cons x xs ih =>
        intro hx
        obtain ⟨t, ht⟩ := typed_Co n x (hx x (by simp))
        obtain ⟨ts, hts⟩ := ih fun y hy => hx y (by simp [hy])
        exact ⟨t :: ts, by rw [ht, hts]; rfl⟩
    obtain ⟨ts, rfl⟩ := key ds h
    exact ⟨ts, rfl⟩
end

def tidsCo : List TypeId := [30, 2, 28, 25]
theorem tidsCo_ok : tidsCo.all (okTy Try.prog tidsCo) = true := by kernel_rfl -- 30
theorem tidsCo_cells : tidsCo.all (fun t => match Try.prog.underlying t with | some (.int _) => Try.prog.cellsOf t == 1 | some .bool => Try.prog.cellsOf t == 1 | some .string => Try.prog.cellsOf t == 1 | some (.slice _) => Try.prog.cellsOf t == 1 | _ => true) = true := by kernel_rfl -- 30
set_option maxRecDepth 100000 in
/-- Handed in. -/
theorem arg_Co {H : Type} {enc : TypeId × Value → H} {W : World} {base : Nat} {vv : Value} {d : DataW H} {p : List MemPlace} (hv : Value.okWide Try.prog W .any base 30 vv)
    (h : DataW.Trod enc Try.prog W 0 (fun _ => true) true 30 vv d p) : ∃ (k : Int) (v : Int) (ds : List Int) (ks : List Co) (ads : Option Addr) (cds : Nat) (aks : Option Addr) (cks : Nat), vv = .agg #[.int .i64 k, .int .i64 v, .slice ads ds.length cds, .slice aks ks.length cks] ∧ RdS W (Co.d (Co.mk k v ds ks)) [.int .i64 k, .int .i64 v, .slice ads ds.length cds, .slice aks ks.length cks] := by
  obtain ⟨cs, rfl, _⟩ := okWide_struct Try.underlying30 hv
  obtain ⟨fuel, hf⟩ := h
  obtain ⟨_, d', F, h1, h2⟩ := trod_rd tidsCo_ok tidsCo_cells fuel _ _ _ (by simp [tidsCo]) hf
  obtain ⟨⟨k, v, ds, ks⟩, rfl⟩ := typed_Co _ _ h2
  obtain ⟨ads, cds, aks, cks, hc, -⟩ := h1.Co_inv
  rw [hc] at h1
  refine ⟨k, v, ds, ks, ads, cds, aks, cks, ?_, ⟨F, h1⟩⟩
  have : cs = #[.int .i64 k, .int .i64 v, .slice ads ds.length cds, .slice aks ks.length cks] := by
    apply Array.toList_inj.1
    simpa [Value.cells] using hc
  rw [this]
def tidsCos : List TypeId := [25, 30, 2, 28]
theorem tidsCos_ok : tidsCos.all (okTy Try.prog tidsCos) = true := by kernel_rfl -- 25
theorem tidsCos_cells : tidsCos.all (fun t => match Try.prog.underlying t with | some (.int _) => Try.prog.cellsOf t == 1 | some .bool => Try.prog.cellsOf t == 1 | some .string => Try.prog.cellsOf t == 1 | some (.slice _) => Try.prog.cellsOf t == 1 | _ => true) = true := by kernel_rfl -- 25
set_option maxRecDepth 100000 in
/-- Handed in. -/
theorem arg_Cos {H : Type} {enc : TypeId × Value → H} {W : World} {base : Nat} {vv : Value} {d : DataW H} {p : List MemPlace} (hv : Value.okWide Try.prog W .any base 25 vv)
    (h : DataW.Trod enc Try.prog W 0 (fun _ => true) true 25 vv d p) : ∃ (ts : List Co) (a : Option Addr) (c : Nat), vv = .slice a ts.length c ∧ RdL W (Co.ds ts) (.slice a ts.length c) := by
  obtain ⟨_, _, _, rfl⟩ := okWide_slice Try.underlying25 hv
  obtain ⟨fuel, hf⟩ := h
  obtain ⟨_, d', F, h1, h2⟩ := trod_rd tidsCos_ok tidsCos_cells fuel _ _ _ (by simp [tidsCos]) hf
  obtain ⟨ts, rfl⟩ := typed_Cos _ _ h2
  obtain ⟨a, cap, hc, -⟩ := h1.list_inv
  rw [Co.ds_length] at hc
  simp only [Value.cells, List.cons.injEq, and_true] at hc
  rw [hc] at h1 ⊢
  exact ⟨ts, a, cap, rfl, F, h1⟩

end Go.Proofs.Ytlbebnmhldolnaa

namespace Go.Proofs.Ytlbebnmhldolnaa
open Go.ChangeShapes Go.WideShapes Go.ChangeAt Go.RowKit
set_option linter.unusedVariables false

set_option maxRecDepth 100000 in
theorem typed_Bk : ∀ (n : Nat) (d : D), Typed Try.prog n 27 d → ∃ t : Bk, d = Bk.d t
  | 0, _, h => by simp [Typed] at h
  | n + 1, d, h => by
    unfold Typed at h
    rw [Try.underlying27] at h
    obtain ⟨ds, rfl, h⟩ := h
    match ds, h with
    | [d0], ⟨h0, _⟩ =>
      match n, h0 with
      | n + 1, h0 =>
        obtain ⟨x0, rfl⟩ := typed_Cos (n + 1) d0 h0
        exact ⟨.mk x0, rfl⟩
def tidsBk : List TypeId := [27, 25, 30, 2, 28]
theorem tidsBk_ok : tidsBk.all (okTy Try.prog tidsBk) = true := by kernel_rfl -- 27
theorem tidsBk_cells : tidsBk.all (fun t => match Try.prog.underlying t with | some (.int _) => Try.prog.cellsOf t == 1 | some .bool => Try.prog.cellsOf t == 1 | some .string => Try.prog.cellsOf t == 1 | some (.slice _) => Try.prog.cellsOf t == 1 | _ => true) = true := by kernel_rfl -- 27
set_option maxRecDepth 100000 in
/-- Handed in. -/
theorem arg_Bk {H : Type} {enc : TypeId × Value → H} {W : World} {base : Nat} {vv : Value} {d : DataW H} {p : List MemPlace} (hv : Value.okWide Try.prog W .any base 27 vv)
    (h : DataW.Trod enc Try.prog W 0 (fun _ => true) true 27 vv d p) : ∃ (fs : List Co) (afs : Option Addr) (cfs : Nat), vv = .agg #[.slice afs fs.length cfs] ∧ RdS W (Bk.d (Bk.mk fs)) [.slice afs fs.length cfs] := by
  obtain ⟨cs, rfl, _⟩ := okWide_struct Try.underlying27 hv
  obtain ⟨fuel, hf⟩ := h
  obtain ⟨_, d', F, h1, h2⟩ := trod_rd tidsBk_ok tidsBk_cells fuel _ _ _ (by simp [tidsBk]) hf
  obtain ⟨⟨fs⟩, rfl⟩ := typed_Bk _ _ h2
  obtain ⟨afs, cfs, hc, -⟩ := h1.Bk_inv
  rw [hc] at h1
  refine ⟨fs, afs, cfs, ?_, ⟨F, h1⟩⟩
  have : cs = #[.slice afs fs.length cfs] := by
    apply Array.toList_inj.1
    simpa [Value.cells] using hc
  rw [this]
end Go.Proofs.Ytlbebnmhldolnaa

namespace Go.Proofs.Ytlbebnmhldolnaa
open Go.ChangeShapes Go.WideShapes Go.ChangeAt Go.RowKit
open Go.Sort (grow)
set_option linter.unusedVariables false

/-- Handed back: the call's own copy. -/
def GivesCo (k : Int) (v : Int) (ds : List Int) (ks : List Co) (w : World) (e : Ending) (w' : World) : Prop :=
  ∃ (ads : Option Addr) (cds : Nat) (aks : Option Addr) (cks : Nat), e = .returned (.agg #[.int .i64 k, .int .i64 v, .slice ads ds.length cds, .slice aks ks.length cks]) ∧ OwnS w' w.heap.size (Co.d (Co.mk k v ds ks)) [.int .i64 k, .int .i64 v, .slice ads ds.length cds, .slice aks ks.length cks] ∧ Below w.heap.size w w'
def GivesCos (ts : List Co) (w : World) (e : Ending) (w' : World) : Prop :=
  ∃ (a : Option Addr) (c : Nat), e = .returned (.slice a ts.length c) ∧ OwnL w' w.heap.size (Co.ds ts) (.slice a ts.length c) ∧ Below w.heap.size w w'
def ToCo (N : Nat) : Prop := ∀ (k : Int) (v : Int) (ds : List Int) (ks : List Co) (ads : Option Addr) (cds : Nat) (aks : Option Addr) (cks : Nat) (w : World), Co.bulk (Co.mk k v ds ks) < N → Co.bulk (Co.mk k v ds ks) ≤ 1048576 → RdS w (Co.d (Co.mk k v ds ks)) [.int .i64 k, .int .i64 v, .slice ads ds.length cds, .slice aks ks.length cks] →
  Calls Try.prog 13 #[.agg #[.int .i64 k, .int .i64 v, .slice ads ds.length cds, .slice aks ks.length cks]] w (GivesCo k v ds ks w)
def ToCos (N : Nat) : Prop := ∀ (ts : List Co) (a : Option Addr) (c : Nat) (w : World), Co.bulks ts < N → Co.bulks ts ≤ 1048576 → RdL w (Co.ds ts) (.slice a ts.length c) →
  Calls Try.prog 35 #[.slice a ts.length c] w (GivesCos ts w)
theorem toCo_step (N : Nat) (ih : ToCos N) : ToCo N := by
  intro k v ds ks ads cds aks cks w hN hM hr
  have hbk : Co.bulk (Co.mk k v ds ks) = In.bulks ds + Co.bulks ks := rfl
  obtain ⟨⟨lok, hik⟩, ⟨lov, hiv⟩, hds, hks⟩ := hr.fCo
  have hc1 := fun (W : World) (hb : Below w.heap.size w W) => toIns ds ads cds W (by omega) (hds.below hb)
  have hc2 := fun (W : World) (hb : Below w.heap.size w W) => ih ks aks cks W (by omega) (by omega) (hks.below hb)
  have HC1 := hid hc1
  have HC2 := hid hc2
  have hB0 : Below w.heap.size w (w.alloc (.cells #[.int .i64 k, .int .i64 v, .slice ads ds.length cds, .slice aks ks.length cks] 30)) := (Below.refl _ _).alloc (Nat.le_refl _) _
  clear hr hbk hM hc1 hc2 hB0 ih hN hds hks
  go_enter Try.func13, Try.ntmps13
  go_wp2_with fail
  refine (HC1.out _ ((((Below.refl _ _).alloc (Nat.le_refl _) _).alloc (by simp) _).alloc (by simp; omega) _)).mono ?_
  rintro e w1 ⟨ads_1, cds_1, rfl, ho1, hb1⟩
  obtain ⟨hcl1, hfz1⟩ := bcell hb1
  have hz1 : w.heap.size + 1 + 1 < w1.heap.size := by have := hb1.size; simp at this; omega
  have hy1 : w.heap.size + 1 < w1.heap.size := by omega
  have hx1 : w.heap.size < w1.heap.size := by omega
  have hbw1 : Below w.heap.size w w1 := ((((Below.refl _ _).alloc (Nat.le_refl _) _).alloc (by simp) _).alloc (by simp; omega) _).trans (hb1.mono (by simp; omega))
  have HO1 := hid (ho1.mono (base' := w.heap.size + 3) (by simp))
  have HT1 := hid (Nat.le_refl w1.heap.size)
  clear HC1 ho1
  have hbs1 := (hbw1.setCell (p := ⟨w.heap.size + 1 + 1, 2, none⟩) (by simp; omega) (.slice ads_1 ds.length cds_1))
  have HKS1 := hid ((Keeps.refl (w.heap.size + 3) w1).setCell (p := ⟨w.heap.size + 1 + 1, 2, none⟩) (by simp) (.slice ads_1 ds.length cds_1))
  go_wp2_with fail
  refine (HC2.out _ hbs1).mono ?_
  rintro e w2 ⟨aks_2, cks_2, rfl, ho2, hb2⟩
  obtain ⟨hcl2, hfz2⟩ := bcell hb2
  have hz2 : w.heap.size + 1 + 1 < w2.heap.size := by have := hb2.size; simp at this; omega
  have hbw2 : Below w.heap.size w w2 := hbs1.trans (hb2.mono hbs1.size)
  have hsz2 : w1.heap.size ≤ w2.heap.size := by have := hb2.size; simpa using this
  have HK2 := hid (HKS1.out.below hb2)
  have HO2 := hid (ho2.mono (base' := w1.heap.size) (by simp))
  clear HC2 ho2 HKS1
  go_wp2_with fail
  refine bodyPost_ret (v := .agg #[.int .i64 k, .int .i64 v, .slice ads_1 ds.length cds_1, .slice aks_2 ks.length cks_2]) (by simp [results, Try.results13, go_sem, hcl1, hcl2, hy1]) rfl ⟨ads_1, cds_1, aks_2, cks_2, rfl, ?_, ?_⟩
  · have hfin := (((((HK2.out.setCell (p := ⟨w.heap.size + 1 + 1, 3, none⟩) (by simp) (.slice aks_2 ks.length cks_2)).setCell (p := ⟨w.heap.size + 1, 0, none⟩) (by simp) (.int .i64 k)).setCell (p := ⟨w.heap.size + 1, 1, none⟩) (by simp) (.int .i64 v)).setCell (p := ⟨w.heap.size + 1, 2, none⟩) (by simp) (.slice ads_1 ds.length cds_1)).setCell (p := ⟨w.heap.size + 1, 3, none⟩) (by simp) (.slice aks_2 ks.length cks_2))
    have hfin2 := ((((((Keeps.refl (w.heap.size + 3) w2).setCell (p := ⟨w.heap.size + 1 + 1, 3, none⟩) (by simp) (.slice aks_2 ks.length cks_2)).setCell (p := ⟨w.heap.size + 1, 0, none⟩) (by simp) (.int .i64 k)).setCell (p := ⟨w.heap.size + 1, 1, none⟩) (by simp) (.int .i64 v)).setCell (p := ⟨w.heap.size + 1, 2, none⟩) (by simp) (.slice ads_1 ds.length cds_1)).setCell (p := ⟨w.heap.size + 1, 3, none⟩) (by simp) (.slice aks_2 ks.length cks_2))
    have hp := (((PartAll.cons (HO1.out.part.keeps hfin (by first | exact Nat.le_refl _ | omega) (Nat.le_refl _)) (PartAll.cons (HO2.out.part.keeps hfin2 (by first | exact Nat.le_refl _ | omega) (Nat.le_refl _)) (PartAll.nil _ w2.heap.size w2.heap.size) (Nat.le_refl _) (by omega) (by omega)) (Nat.le_refl _) (by omega) (by omega)).plain (Rd.int_mk lov hiv)).plain (Rd.int_mk lok hik))
    exact OwnS.mono (base := w.heap.size + 3) hp.own (by omega)
  · exact (((((hbw2.setCell (by simp; try omega) _).setCell (by simp; try omega) _).setCell (by simp; try omega) _).setCell (by simp; try omega) _).setCell (by simp; try omega) _)

theorem infoCo : (Try.prog.info? 35).map (fun i => (i.zero, i.size, i.bytes)) = some (some (.agg #[.int .i64 0, .int .i64 0, .slice none 0 0, .slice none 0 0]), 4, 64) := by kernel_rfl
theorem makeCo (n : Nat) (hn : n ≤ 1048576) : ∃ C : Array Value, C.size = n * 4 ∧ ∀ w : World, (Instr.makeSlice 33 (.int .i64 (n : Int)) (.int .i64 (n : Int))).run Try.prog w = .ok (.slice (some ⟨w.heap.size, 0, none⟩) n n) (w.alloc (.cells C 35)) := by
  obtain ⟨i, hi, hz, hs, hb⟩ := info_parts infoCo
  refine ⟨madeCells (Value.cells (.agg #[.int .i64 0, .int .i64 0, .slice none 0 0, .slice none 0 0])) (n * 4), size_madeCells _ _, fun w => ?_⟩
  have := run_make (P := Try.prog) w 33 35 i _ Try.underlying33 hi hz .i64 .i64 n n (by omega) (Int.le_refl _) (by rw [hb]; omega) (by omega)
  simp only [Int.toNat_natCast, hs] at this
  exact this
theorem toCos_step (N : Nat) (ih : ToCo N) : ToCos (N + 1) := by
  intro ts a c w hN hM hr
  obtain ⟨_, _, e, h2, h3, h4⟩ := hr.eCo
  simp only [Value.slice.injEq, true_and] at e
  obtain ⟨rfl, rfl⟩ := e
  have hl := Co.bulks_length ts
  obtain ⟨C, hC, hmk⟩ := makeCo ts.length (by omega)
  have HC := hid hC
  have H4 := hid h4
  have IH := hid ih
  clear hr h4 hC ih
  go_enter Try.func35, Try.ntmps35
  go_wp2_with fail
  clear hmk
  go_loopw [4] (fun i wr => ∃ (j : Nat), j ≤ ts.length ∧ i = .int .i64 j ∧ ∃ (cur : Array Value) (F : List Nat), wr.heap[w.heap.size]? = some (.cells cur 35 (0, 0)) ∧ Hid (cur.size = ts.length * 4) ∧ Hid (RdAll wr (Co.ds (ts.take j)) (cur.toList.take (j * 4)) F) ∧ Owned wr (w.heap.size + 1) F ∧ Below w.heap.size w wr) (fun i _ => ts.length - (intOf i).toNat)
  case atStart => exact ⟨0, by omega, rfl, C, [], heap_alloc_new _ _, HC.out, by show RdAll _ _ _ _; simpa [Co.ds] using RdAll.nil, Owned.nil _ _, (Below.refl _ _).alloc (Nat.le_refl _) _⟩
  case round =>
    obtain ⟨j, hj, rfl, cur, F, hcur, HS, HR, HO, hb⟩ := hrel
    by_cases hlt : j < ts.length
    · obtain ⟨b, o, rfl, hbl, hall⟩ := H4.out (by omega)
      obtain ⟨t, ht⟩ : ∃ t, ts[j]? = some t := ⟨_, List.getElem?_eq_getElem hlt⟩
      obtain ⟨k1, v1, ds1, ks1⟩ := t
      obtain ⟨ads1, cds1, aks1, cks1, q0, q1, q2, q3, hrk⟩ := hall j k1 v1 ds1 ks1 ht
      clear hall H4
      have d0 := (hb.cell (p := ⟨b, o + j * 4, none⟩) hbl).trans q0
      have d1 := (hb.cell (p := ⟨b, o + j * 4 + 1, none⟩) hbl).trans q1
      have d2 := (hb.cell (p := ⟨b, o + j * 4 + 2, none⟩) hbl).trans q2
      have d3 := (hb.cell (p := ⟨b, o + j * 4 + 3, none⟩) hbl).trans q3
      have HT := hid ht
      have hbg := Co.bulk_get ts j _ ht
      have hfc := hrk.fCo
      have HFC := hid hfc
      have hc := IH.out k1 v1 ds1 ks1 ads1 cds1 aks1 cks1 wr (by omega) (by omega) (hrk.below hb)
      have HC := hid hc
      have HU := hid hcur
      clear ht hrk q0 q1 q2 q3 hc hcur hfc
      go_wp2_with fail
      refine HC.out.mono ?_
      clear HC
      rintro e w1 ⟨ads2, cds2, aks2, cks2, rfl, hown, hb1⟩
      have hB : w.heap.size < wr.heap.size := (Array.getElem?_eq_some_iff.1 HU.out).1
      have hcur1 : w1.heap[w.heap.size]? = some (.cells cur 35 (0, 0)) := (hb1.block _ hB).trans HU.out
      have hsz : j * 4 + 3 < cur.size := by have := HS.out; omega
      have e0 : w1.cell? ⟨w.heap.size, j * 4, none⟩ = some (cur[j * 4]'(by omega)) := by simp [World.cell?, hcur1]
      have f0 : w1.frozen? ⟨w.heap.size, j * 4, none⟩ = false := by simp [World.frozen?, hcur1]
      have e1 : w1.cell? ⟨w.heap.size, j * 4 + 1, none⟩ = some (cur[j * 4 + 1]'(by omega)) := by simp [World.cell?, hcur1]
      have f1 : w1.frozen? ⟨w.heap.size, j * 4 + 1, none⟩ = false := by simp [World.frozen?, hcur1]
      have e2 : w1.cell? ⟨w.heap.size, j * 4 + 2, none⟩ = some (cur[j * 4 + 2]'(by omega)) := by simp [World.cell?, hcur1]
      have f2 : w1.frozen? ⟨w.heap.size, j * 4 + 2, none⟩ = false := by simp [World.frozen?, hcur1]
      have e3 : w1.cell? ⟨w.heap.size, j * 4 + 3, none⟩ = some (cur[j * 4 + 3]'(by omega)) := by simp [World.cell?, hcur1]
      have f3 : w1.frozen? ⟨w.heap.size, j * 4 + 3, none⟩ = false := by simp [World.frozen?, hcur1]
      have HCU := hid hcur1
      have HW := hid hown
      clear hcur1 hown
      go_wp2_with fail
      obtain ⟨F3, hr3, ho3⟩ := HW.out
      have hlo3 : ∀ y ∈ F3, wr.heap.size ≤ y := fun y hy => (ho3.2 y hy).1
      have hlo : ∀ x ∈ F, x < wr.heap.size := HO.lt
      obtain ⟨cur', H, g1, g2, g3, g4, g5⟩ := fill_step (m := 4) (base := w.heap.size + 1) HCU.out rfl (by have := HS.out; omega) (HR.out.below hb1) hr3 (HO.keep fun b hb => hb1.block b (hlo b hb)) (ho3.mono (by omega))
        (fun x hx => by have := (HO.2 x hx).1; omega) (fun x hx => by have := hlo3 x hx; omega) (fun x hx y hy => by have := hlo x hx; have := hlo3 y hy; omega)
      have hbw : Below w.heap.size w (setMany w1 w.heap.size (j * 4) [.int .i64 k1, .int .i64 v1, .slice ads2 ds1.length cds2, .slice aks2 ks1.length cks2]) := Below.setMany _ _ (hb.trans (hb1.mono hb.size)) (Nat.le_refl _)
      have htk : Co.ds (ts.take (j + 1)) = Co.ds (ts.take j) ++ [Co.d (Co.mk k1 v1 ds1 ks1)] := Co.ds_snoc ts j _ HT.out
      go_roundw
      case rel => exact ⟨j + 1, by omega, by go_num, cur', H, g1, by show _ = _; rw [g2]; exact HS.out, by show RdAll _ _ _ _; rw [htk]; exact g3, g4, hbw⟩
      case measure => simp [intOf]; omega
    · obtain rfl : j = ts.length := by omega
      rw [List.take_length] at HR
      go_wp2_with fail
      go_ret
      obtain ⟨G, q1, q2⟩ := fill_done (m := 4) (base := w.heap.size) hcur HS.out (Co.ds_length ts) (by omega) HR.out (HO.mono (by omega)) (Nat.le_refl _) (fun x hx => by have := (HO.2 x hx).1; omega)
      exact ⟨_, _, rfl, ⟨G, q1, q2⟩, hb⟩

theorem toCo_all : ∀ M, ToCo M ∧ ToCos M
  | 0 => ⟨fun _ _ _ _ _ _ _ _ _ h => absurd h (by omega), fun _ _ _ _ h => absurd h (by omega)⟩
  | M + 1 => by
    have h := toCo_all M
    have h2 := toCos_step M h.1
    exact ⟨toCo_step (M + 1) h2, h2⟩
theorem toCo (k : Int) (v : Int) (ds : List Int) (ks : List Co) (ads : Option Addr) (cds : Nat) (aks : Option Addr) (cks : Nat) (w : World) (hM : Co.bulk (Co.mk k v ds ks) ≤ 1048576) (hr : RdS w (Co.d (Co.mk k v ds ks)) [.int .i64 k, .int .i64 v, .slice ads ds.length cds, .slice aks ks.length cks]) :
    Calls Try.prog 13 #[.agg #[.int .i64 k, .int .i64 v, .slice ads ds.length cds, .slice aks ks.length cks]] w (GivesCo k v ds ks w) :=
  (toCo_all (Co.bulk (Co.mk k v ds ks) + 1)).1 k v ds ks ads cds aks cks w (by omega) hM hr
theorem toCos (ts : List Co) (a : Option Addr) (c : Nat) (w : World) (hM : Co.bulks ts ≤ 1048576) (hr : RdL w (Co.ds ts) (.slice a ts.length c)) :
    Calls Try.prog 35 #[.slice a ts.length c] w (GivesCos ts w) :=
  (toCo_all (Co.bulks ts + 1)).2 ts a c w (by omega) hM hr

end Go.Proofs.Ytlbebnmhldolnaa

namespace Go.Proofs.Ytlbebnmhldolnaa
open Go.ChangeShapes Go.WideShapes Go.ChangeAt Go.RowKit
open Go.Sort (grow)
set_option linter.unusedVariables false

/-- Handed back: the call's own copy. -/
def GivesBk (fs : List Co) (w : World) (e : Ending) (w' : World) : Prop :=
  ∃ (afs : Option Addr) (cfs : Nat), e = .returned (.agg #[.slice afs fs.length cfs]) ∧ OwnS w' w.heap.size (Bk.d (Bk.mk fs)) [.slice afs fs.length cfs] ∧ Below w.heap.size w w'
def GivesBks (ts : List Bk) (w : World) (e : Ending) (w' : World) : Prop :=
  ∃ (a : Option Addr) (c : Nat), e = .returned (.slice a ts.length c) ∧ OwnL w' w.heap.size (Bk.ds ts) (.slice a ts.length c) ∧ Below w.heap.size w w'
abbrev ToBk : Prop := ∀ (fs : List Co) (afs : Option Addr) (cfs : Nat) (w : World), Bk.bulk (Bk.mk fs) ≤ 1048576 → RdS w (Bk.d (Bk.mk fs)) [.slice afs fs.length cfs] →
  Calls Try.prog 12 #[.agg #[.slice afs fs.length cfs]] w (GivesBk fs w)
theorem toBk : ToBk := by
  intro fs afs cfs w hM hr
  have hbk : Bk.bulk (Bk.mk fs) = Co.bulks fs := rfl
  obtain hfs := hr.fBk
  have hc1 := fun (W : World) (hb : Below w.heap.size w W) => toCos fs afs cfs W (by omega) (hfs.below hb)
  have HC1 := hid hc1
  have hB0 : Below w.heap.size w (w.alloc (.cells #[.slice afs fs.length cfs] 27)) := (Below.refl _ _).alloc (Nat.le_refl _) _
  clear hr hbk hM hc1 hB0 hfs
  go_enter Try.func12, Try.ntmps12
  go_wp2_with fail
  refine (HC1.out _ ((((Below.refl _ _).alloc (Nat.le_refl _) _).alloc (by simp) _).alloc (by simp; omega) _)).mono ?_
  rintro e w1 ⟨afs_1, cfs_1, rfl, ho1, hb1⟩
  obtain ⟨hcl1, hfz1⟩ := bcell hb1
  have hz1 : w.heap.size + 1 + 1 < w1.heap.size := by have := hb1.size; simp at this; omega
  have hbw1 : Below w.heap.size w w1 := ((((Below.refl _ _).alloc (Nat.le_refl _) _).alloc (by simp) _).alloc (by simp; omega) _).trans (hb1.mono (by simp; omega))
  have HO1 := hid (ho1.mono (base' := w.heap.size + 3) (by simp))
  have HT1 := hid (Nat.le_refl w1.heap.size)
  clear HC1 ho1
  go_wp2_with fail
  refine bodyPost_ret (v := .agg #[.slice afs_1 fs.length cfs_1]) (by simp [results, Try.results12, go_sem, hcl1]) rfl ⟨afs_1, cfs_1, rfl, ?_, ?_⟩
  · have hfin := (((Keeps.refl (w.heap.size + 3) w1).setCell (p := ⟨w.heap.size + 1 + 1, 0, none⟩) (by simp) (.slice afs_1 fs.length cfs_1)).setCell (p := ⟨w.heap.size + 1, 0, none⟩) (by simp) (.slice afs_1 fs.length cfs_1))
    have hp := (PartAll.cons (HO1.out.part.keeps hfin (by first | exact Nat.le_refl _ | omega) (Nat.le_refl _)) (PartAll.nil _ w1.heap.size w1.heap.size) (Nat.le_refl _) (by omega) (by omega))
    exact OwnS.mono (base := w.heap.size + 3) hp.own (by omega)
  · exact ((hbw1.setCell (by simp; try omega) _).setCell (by simp; try omega) _)

theorem infoBk : (Try.prog.info? 45).map (fun i => (i.zero, i.size, i.bytes)) = some (some (.agg #[.slice none 0 0]), 1, 24) := by kernel_rfl
end Go.Proofs.Ytlbebnmhldolnaa

namespace Go.Proofs.Ytlbebnmhldolnaa
open Go.ChangeShapes Go.WideShapes Go.ChangeAt Go.RowKit
open Go.Sort (grow)
set_option linter.unusedVariables false

theorem eqIns (ts : List Int) (a a' : Option Addr) (c c' : Nat) (w : World) (hr : RdL w (In.ds ts) (.slice a ts.length c)) (hr' : RdL w (In.ds ts) (.slice a' ts.length c')) :
    Calls Try.prog 43 #[.slice a ts.length c, .slice a' ts.length c'] w fun e w' => e = .returned (.bool true) ∧ Below w.heap.size w w' := by
  obtain ⟨_, _, e, h2, h3, h4⟩ := hr.eIn
  simp only [Value.slice.injEq, true_and] at e
  obtain ⟨rfl, rfl⟩ := e
  obtain ⟨_, _, e, h2', h3', h4'⟩ := hr'.eIn
  simp only [Value.slice.injEq, true_and] at e
  obtain ⟨rfl, rfl⟩ := e
  have H4 := hid h4
  have H4' := hid h4'
  clear hr h4 hr' h4'
  go_enter Try.func43, Try.ntmps43
  go_wp2_with fail
  go_loopw [5] (fun i wr => ∃ (j : Nat), j ≤ ts.length ∧ i = .int .i64 j ∧ Below w.heap.size w wr) (fun i _ => ts.length - (intOf i).toNat)
  case atStart => exact ⟨0, by omega, rfl, Below.refl _ _⟩
  case round =>
    obtain ⟨j, hj, rfl, hb⟩ := hrel
    by_cases hlt : j < ts.length
    · obtain ⟨b, o, rfl, hbl, hall⟩ := H4.out (by omega)
      obtain ⟨b', o', rfl, hbl', hall'⟩ := H4'.out (by omega)
      obtain ⟨t, ht⟩ : ∃ t, ts[j]? = some t := ⟨_, List.getElem?_eq_getElem hlt⟩
      obtain ⟨q0, hfc⟩ := hall j t ht
      obtain ⟨p0, -⟩ := hall' j t ht
      clear hall H4 hall' H4' ht
      have d0 := cell_regrown ((hb.cell (p := ⟨b, o + j, none⟩) hbl).trans q0)
      have d1 := cell_regrown ((hb.cell (p := ⟨b', o' + j, none⟩) hbl').trans p0)
      clear q0 p0
      go_wp2_with fail
      refine wp_region_quiet_below (by kernel_rfl) (by kernel_rfl) ?_
      repeat (quiet_step (fail))
      refine wpQuiet_nil ?_
      intro _ hw'
      obtain ⟨⟨dq, osq⟩, hw''⟩ := hw'
      subst hw''
      have hbq := hb.trans ((below_regrown wr dq osq).mono hb.size)
      clear d0 d1
      go_wp2_with fail
      go_roundw
      case rel => exact ⟨j + 1, by omega, by go_num, hbq⟩
      case measure => simp [intOf]; omega
    · go_wp2_with fail
      go_ret
      exact ⟨rfl, hb⟩

end Go.Proofs.Ytlbebnmhldolnaa

namespace Go.Proofs.Ytlbebnmhldolnaa
open Go.ChangeShapes Go.WideShapes Go.ChangeAt Go.RowKit
open Go.Sort (grow)
set_option linter.unusedVariables false

def EqCo (N : Nat) : Prop := ∀ (k : Int) (v : Int) (ds : List Int) (ks : List Co) (ads : Option Addr) (cds : Nat) (aks : Option Addr) (cks : Nat) (ads' : Option Addr) (cds' : Nat) (aks' : Option Addr) (cks' : Nat) (w : World), Co.bulk (Co.mk k v ds ks) < N → RdS w (Co.d (Co.mk k v ds ks)) [.int .i64 k, .int .i64 v, .slice ads ds.length cds, .slice aks ks.length cks] → RdS w (Co.d (Co.mk k v ds ks)) [.int .i64 k, .int .i64 v, .slice ads' ds.length cds', .slice aks' ks.length cks'] →
  Calls Try.prog 17 #[.agg #[.int .i64 k, .int .i64 v, .slice ads ds.length cds, .slice aks ks.length cks], .agg #[.int .i64 k, .int .i64 v, .slice ads' ds.length cds', .slice aks' ks.length cks']] w fun e w' => e = .returned (.bool true) ∧ Below w.heap.size w w'
def EqCos (N : Nat) : Prop := ∀ (ts : List Co) (a a' : Option Addr) (c c' : Nat) (w : World), Co.bulks ts < N → RdL w (Co.ds ts) (.slice a ts.length c) → RdL w (Co.ds ts) (.slice a' ts.length c') →
  Calls Try.prog 42 #[.slice a ts.length c, .slice a' ts.length c'] w fun e w' => e = .returned (.bool true) ∧ Below w.heap.size w w'
theorem eqCo_step (N : Nat) (ih : EqCos N) : EqCo N := by
  intro k v ds ks ads cds aks cks ads' cds' aks' cks' w hN hr hr'
  have hbk : Co.bulk (Co.mk k v ds ks) = In.bulks ds + Co.bulks ks := rfl
  obtain ⟨⟨lok, hik⟩, ⟨lov, hiv⟩, hds, hks⟩ := hr.fCo
  obtain ⟨⟨lok', hik'⟩, ⟨lov', hiv'⟩, hds', hks'⟩ := hr'.fCo
  have hc1 := fun (W : World) (hb : Below w.heap.size w W) => eqIns ds ads ads' cds cds' W (hds.below hb) (hds'.below hb)
  have hc2 := fun (W : World) (hb : Below w.heap.size w W) => ih ks aks aks' cks cks' W (by omega) (hks.below hb) (hks'.below hb)
  have HC1 := hid hc1
  have HC2 := hid hc2
  have HX0 := hid (((Boxes.nil w).alloc #[.int .i64 k, .int .i64 v, .slice ads ds.length cds, .slice aks ks.length cks] 35 (0, 0)).alloc #[.int .i64 k, .int .i64 v, .slice ads' ds.length cds', .slice aks' ks.length cks'] 35 (0, 0))
  have HB0 := hid (((Below.refl w.heap.size w).alloc (Nat.le_refl _) (.cells #[.int .i64 k, .int .i64 v, .slice ads ds.length cds, .slice aks ks.length cks] 35)).alloc (by simp) (.cells #[.int .i64 k, .int .i64 v, .slice ads' ds.length cds', .slice aks' ks.length cks'] 35))
  clear hr hr' hbk hc1 hc2 ih hN hds hds' hks hks'
  go_enter Try.func17, Try.ntmps17
  go_wp2_with fail
  refine (HC1.out _ HB0.out).mono ?_
  rintro e w1 ⟨rfl, hb1⟩
  have hbw1 := HB0.out.trans (hb1.mono (by simp; omega))
  have hx1 := HX0.out.below hb1
  have g1_3 := hx1.at 1 3 rfl rfl
  have k1_3 := hx1.at 0 3 rfl rfl
  simp only [World.size_alloc] at k1_3
  have HX1 := hid hx1
  clear hx1 hb1 HC1
  go_wp2_with fail
  refine (HC2.out _ hbw1).mono ?_
  rintro e w2 ⟨rfl, hb2⟩
  have hbw2 := hbw1.trans (hb2.mono (by exact hbw1.size))
  have hx2 := HX1.out.below hb2
  have HX2 := hid hx2
  clear hx2 hb2 HC2
  go_wp2_with fail
  go_ret
  exact ⟨rfl, hbw2⟩

theorem eqCos_step (N : Nat) (ih : EqCo N) : EqCos (N + 1) := by
  intro ts a a' c c' w hN hr hr'
  obtain ⟨_, _, e, h2, h3, h4⟩ := hr.eCo
  simp only [Value.slice.injEq, true_and] at e
  obtain ⟨rfl, rfl⟩ := e
  obtain ⟨_, _, e, h2', h3', h4'⟩ := hr'.eCo
  simp only [Value.slice.injEq, true_and] at e
  obtain ⟨rfl, rfl⟩ := e
  have H4 := hid h4
  have H4' := hid h4'
  have IH := hid ih
  clear hr h4 hr' h4' ih
  go_enter Try.func42, Try.ntmps42
  go_wp2_with fail
  go_loopw [5] (fun i wr => ∃ (j : Nat), j ≤ ts.length ∧ i = .int .i64 j ∧ Below w.heap.size w wr) (fun i _ => ts.length - (intOf i).toNat)
  case atStart => exact ⟨0, by omega, rfl, Below.refl _ _⟩
  case round =>
    obtain ⟨j, hj, rfl, hb⟩ := hrel
    by_cases hlt : j < ts.length
    · obtain ⟨b, o, rfl, hbl, hall⟩ := H4.out (by omega)
      obtain ⟨b', o', rfl, hbl', hall'⟩ := H4'.out (by omega)
      obtain ⟨t, ht⟩ : ∃ t, ts[j]? = some t := ⟨_, List.getElem?_eq_getElem hlt⟩
      obtain ⟨k1, v1, ds1, ks1⟩ := t
      obtain ⟨ads1, cds1, aks1, cks1, q0, q1, q2, q3, hrk⟩ := hall j k1 v1 ds1 ks1 ht
      obtain ⟨ads2, cds2, aks2, cks2, p0, p1, p2, p3, hrk'⟩ := hall' j k1 v1 ds1 ks1 ht
      clear hall H4 hall' H4'
      have d0 := cell_regrown ((hb.cell (p := ⟨b, o + j * 4, none⟩) hbl).trans q0)
      have d4 := cell_regrown ((hb.cell (p := ⟨b', o' + j * 4, none⟩) hbl').trans p0)
      have d1 := cell_regrown ((hb.cell (p := ⟨b, o + j * 4 + 1, none⟩) hbl).trans q1)
      have d5 := cell_regrown ((hb.cell (p := ⟨b', o' + j * 4 + 1, none⟩) hbl').trans p1)
      have d2 := cell_regrown ((hb.cell (p := ⟨b, o + j * 4 + 2, none⟩) hbl).trans q2)
      have d6 := cell_regrown ((hb.cell (p := ⟨b', o' + j * 4 + 2, none⟩) hbl').trans p2)
      have d3 := cell_regrown ((hb.cell (p := ⟨b, o + j * 4 + 3, none⟩) hbl).trans q3)
      have d7 := cell_regrown ((hb.cell (p := ⟨b', o' + j * 4 + 3, none⟩) hbl').trans p3)
      have hbg := Co.bulk_get ts j _ ht
      have hc := fun d os => Calls.regrown_of (IH.out k1 v1 ds1 ks1 ads1 cds1 aks1 cks1 ads2 cds2 aks2 cks2 (grow (redrawn wr d) os) (by omega) ((hrk.below hb).below (below_regrown wr d os)) ((hrk'.below hb).below (below_regrown wr d os)))
      have HC := hid hc
      clear ht hrk hrk' q0 q1 q2 q3 p0 p1 p2 p3 hc
      go_wp2_with fail
      refine wp_region_quiet_below (by kernel_rfl) (by kernel_rfl) ?_
      repeat (quiet_step (exact HC.out _ _))
      refine wpQuiet_nil ?_
      intro _ hw'
      obtain ⟨⟨dq, osq⟩, hw''⟩ := hw'
      subst hw''
      have hbq := hb.trans ((below_regrown wr dq osq).mono hb.size)
      clear HC d0 d1 d2 d3 d4 d5 d6 d7
      go_wp2_with fail
      go_roundw
      case rel => exact ⟨j + 1, by omega, by go_num, hbq⟩
      case measure => simp [intOf]; omega
    · go_wp2_with fail
      go_ret
      exact ⟨rfl, hb⟩

theorem eqCo_all : ∀ M, EqCo M ∧ EqCos M
  | 0 => ⟨fun _ _ _ _ _ _ _ _ _ _ _ _ _ h => absurd h (by omega), fun _ _ _ _ _ _ h => absurd h (by omega)⟩
  | M + 1 => by
    have h := eqCo_all M
    have h2 := eqCos_step M h.1
    exact ⟨eqCo_step (M + 1) h2, h2⟩
theorem eqCo (k : Int) (v : Int) (ds : List Int) (ks : List Co) (ads : Option Addr) (cds : Nat) (aks : Option Addr) (cks : Nat) (ads' : Option Addr) (cds' : Nat) (aks' : Option Addr) (cks' : Nat) (w : World) (hr : RdS w (Co.d (Co.mk k v ds ks)) [.int .i64 k, .int .i64 v, .slice ads ds.length cds, .slice aks ks.length cks]) (hr' : RdS w (Co.d (Co.mk k v ds ks)) [.int .i64 k, .int .i64 v, .slice ads' ds.length cds', .slice aks' ks.length cks']) :
    Calls Try.prog 17 #[.agg #[.int .i64 k, .int .i64 v, .slice ads ds.length cds, .slice aks ks.length cks], .agg #[.int .i64 k, .int .i64 v, .slice ads' ds.length cds', .slice aks' ks.length cks']] w fun e w' => e = .returned (.bool true) ∧ Below w.heap.size w w' :=
  (eqCo_all (Co.bulk (Co.mk k v ds ks) + 1)).1 k v ds ks ads cds aks cks ads' cds' aks' cks' w (by omega) hr hr'
theorem eqCos (ts : List Co) (a a' : Option Addr) (c c' : Nat) (w : World) (hr : RdL w (Co.ds ts) (.slice a ts.length c)) (hr' : RdL w (Co.ds ts) (.slice a' ts.length c')) :
    Calls Try.prog 42 #[.slice a ts.length c, .slice a' ts.length c'] w fun e w' => e = .returned (.bool true) ∧ Below w.heap.size w w' :=
  (eqCo_all (Co.bulks ts + 1)).2 ts a a' c c' w (by omega) hr hr'

end Go.Proofs.Ytlbebnmhldolnaa

namespace Go.Proofs.Ytlbebnmhldolnaa
open Go.ChangeShapes Go.WideShapes Go.ChangeAt Go.RowKit
open Go.Sort (grow)
set_option linter.unusedVariables false

abbrev EqBk : Prop := ∀ (fs : List Co) (afs : Option Addr) (cfs : Nat) (afs' : Option Addr) (cfs' : Nat) (w : World), RdS w (Bk.d (Bk.mk fs)) [.slice afs fs.length cfs] → RdS w (Bk.d (Bk.mk fs)) [.slice afs' fs.length cfs'] →
  Calls Try.prog 16 #[.agg #[.slice afs fs.length cfs], .agg #[.slice afs' fs.length cfs']] w fun e w' => e = .returned (.bool true) ∧ Below w.heap.size w w'
theorem eqBk : EqBk := by
  intro fs afs cfs afs' cfs' w hr hr'
  have hbk : Bk.bulk (Bk.mk fs) = Co.bulks fs := rfl
  obtain hfs := hr.fBk
  obtain hfs' := hr'.fBk
  have hc1 := fun (W : World) (hb : Below w.heap.size w W) => eqCos fs afs afs' cfs cfs' W (hfs.below hb) (hfs'.below hb)
  have HC1 := hid hc1
  have HX0 := hid (((Boxes.nil w).alloc #[.slice afs fs.length cfs] 45 (0, 0)).alloc #[.slice afs' fs.length cfs'] 45 (0, 0))
  have HB0 := hid (((Below.refl w.heap.size w).alloc (Nat.le_refl _) (.cells #[.slice afs fs.length cfs] 45)).alloc (by simp) (.cells #[.slice afs' fs.length cfs'] 45))
  clear hr hr' hbk hc1 hfs hfs'
  go_enter Try.func16, Try.ntmps16
  go_wp2_with fail
  refine (HC1.out _ HB0.out).mono ?_
  rintro e w1 ⟨rfl, hb1⟩
  have hbw1 := HB0.out.trans (hb1.mono (by simp; omega))
  have hx1 := HX0.out.below hb1
  have HX1 := hid hx1
  clear hx1 hb1 HC1
  go_wp2_with fail
  go_ret
  exact ⟨rfl, hbw1⟩

end Go.Proofs.Ytlbebnmhldolnaa

namespace Go.Proofs.Ytlbebnmhldolnaa
open Go.ChangeShapes Go.WideShapes Go.ChangeAt Go.RowKit
set_option linter.unusedVariables false

set_option maxRecDepth 100000 in
theorem typed_Cl : ∀ (n : Nat) (d : D), Typed Try.prog n 56 d → ∃ t : Cl, d = Cl.d t
  | 0, _, h => by simp [Typed] at h
  | n + 1, d, h => by
    unfold Typed at h
    rw [Try.underlying56] at h
    obtain ⟨ds, rfl, h⟩ := h
    match ds, h with
    | [d0, d1], ⟨h0, h1, _⟩ =>
      match n, h0, h1 with
      | n + 1, h0, h1 =>
        obtain ⟨x0, rfl⟩ := typed_Co (n + 1) d0 h0
        obtain ⟨x1, rfl⟩ := typed_Ins (n + 1) d1 h1
        exact ⟨.mk x0 x1, rfl⟩
def tidsCl : List TypeId := [56, 30, 2, 28, 25]
theorem tidsCl_ok : tidsCl.all (okTy Try.prog tidsCl) = true := by kernel_rfl -- 56
theorem tidsCl_cells : tidsCl.all (fun t => match Try.prog.underlying t with | some (.int _) => Try.prog.cellsOf t == 1 | some .bool => Try.prog.cellsOf t == 1 | some .string => Try.prog.cellsOf t == 1 | some (.slice _) => Try.prog.cellsOf t == 1 | _ => true) = true := by kernel_rfl -- 56
set_option maxRecDepth 100000 in
/-- Handed in. -/
theorem arg_Cl {H : Type} {enc : TypeId × Value → H} {W : World} {base : Nat} {vv : Value} {d : DataW H} {p : List MemPlace} (hv : Value.okWide Try.prog W .any base 56 vv)
    (h : DataW.Trod enc Try.prog W 0 (fun _ => true) true 56 vv d p) : ∃ (tk : Int) (tv : Int) (tds : List Int) (tks : List Co) (es : List Int) (atds : Option Addr) (ctds : Nat) (atks : Option Addr) (ctks : Nat) (aes : Option Addr) (ces : Nat), vv = .agg #[.int .i64 tk, .int .i64 tv, .slice atds tds.length ctds, .slice atks tks.length ctks, .slice aes es.length ces] ∧ RdS W (Cl.d (Cl.mk (Co.mk tk tv tds tks) es)) [.int .i64 tk, .int .i64 tv, .slice atds tds.length ctds, .slice atks tks.length ctks, .slice aes es.length ces] := by
  obtain ⟨cs, rfl, _⟩ := okWide_struct Try.underlying56 hv
  obtain ⟨fuel, hf⟩ := h
  obtain ⟨_, d', F, h1, h2⟩ := trod_rd tidsCl_ok tidsCl_cells fuel _ _ _ (by simp [tidsCl]) hf
  obtain ⟨⟨⟨tk, tv, tds, tks⟩, es⟩, rfl⟩ := typed_Cl _ _ h2
  obtain ⟨atds, ctds, atks, ctks, aes, ces, hc, -⟩ := h1.Cl_inv
  rw [hc] at h1
  refine ⟨tk, tv, tds, tks, es, atds, ctds, atks, ctks, aes, ces, ?_, ⟨F, h1⟩⟩
  have : cs = #[.int .i64 tk, .int .i64 tv, .slice atds tds.length ctds, .slice atks tks.length ctks, .slice aes es.length ces] := by
    apply Array.toList_inj.1
    simpa [Value.cells] using hc
  rw [this]
end Go.Proofs.Ytlbebnmhldolnaa

namespace Go.Proofs.Ytlbebnmhldolnaa
open Go.ChangeShapes Go.WideShapes Go.ChangeAt Go.RowKit
set_option linter.unusedVariables false

set_option maxRecDepth 100000 in
theorem typed_Fr : ∀ (n : Nat) (d : D), Typed Try.prog n 115 d → ∃ t : Fr, d = Fr.d t
  | 0, _, h => by simp [Typed] at h
  | n + 1, d, h => by
    unfold Typed at h
    rw [Try.underlying115] at h
    obtain ⟨ds, rfl, h⟩ := h
    match ds, h with
    | [d0, d1, d2, d3], ⟨h0, h1, h2, h3, _⟩ =>
      match n, h0, h1, h2, h3 with
      | n + 1, h0, h1, h2, h3 =>
        unfold Typed at h0
        rw [Try.underlying2] at h0
        obtain ⟨x0, rfl⟩ := h0
        unfold Typed at h1
        rw [Try.underlying2] at h1
        obtain ⟨x1, rfl⟩ := h1
        obtain ⟨x2, rfl⟩ := typed_Ins (n + 1) d2 h2
        obtain ⟨x3, rfl⟩ := typed_Cl (n + 1) d3 h3
        exact ⟨.mk x0 x1 x2 x3, rfl⟩
set_option maxRecDepth 100000 in
theorem typed_Frs : ∀ (n : Nat) (d : D), Typed Try.prog n 57 d → ∃ ts : List Fr, d = .list (Fr.ds ts)
  | 0, _, h => by simp [Typed] at h
  | n + 1, d, h => by
    unfold Typed at h
    rw [Try.underlying57] at h
    obtain ⟨ds, rfl, h⟩ := h
    have key : ∀ ds : List D, (∀ x ∈ ds, Typed Try.prog n 115 x) → ∃ ts, ds = Fr.ds ts := by
      intro ds
      induction ds with
      | nil => exact fun _ => ⟨[], rfl⟩
      | cons x xs ih =>
        intro hx
        obtain ⟨t, ht⟩ := typed_Fr n x (hx x (by simp))
        obtain ⟨ts, hts⟩ := ih fun y hy => hx y (by simp [hy])
        exact ⟨t :: ts, by rw [ht, hts]; rfl⟩
    obtain ⟨ts, rfl⟩ := key ds h
    exact ⟨ts, rfl⟩

def tidsFr : List TypeId := [115, 2, 28, 56, 30, 25]
theorem tidsFr_ok : tidsFr.all (okTy Try.prog tidsFr) = true := by kernel_rfl -- 115
theorem tidsFr_cells : tidsFr.all (fun t => match Try.prog.underlying t with | some (.int _) => Try.prog.cellsOf t == 1 | some .bool => Try.prog.cellsOf t == 1 | some .string => Try.prog.cellsOf t == 1 | some (.slice _) => Try.prog.cellsOf t == 1 | _ => true) = true := by kernel_rfl -- 115
set_option maxRecDepth 100000 in
/-- Handed in. -/
theorem arg_Fr {H : Type} {enc : TypeId × Value → H} {W : World} {base : Nat} {vv : Value} {d : DataW H} {p : List MemPlace} (hv : Value.okWide Try.prog W .any base 115 vv)
    (h : DataW.Trod enc Try.prog W 0 (fun _ => true) true 115 vv d p) : ∃ (k : Int) (v : Int) (ds : List Int) (ctk : Int) (ctv : Int) (ctds : List Int) (ctks : List Co) (ces : List Int) (ads : Option Addr) (cds : Nat) (actds : Option Addr) (cctds : Nat) (actks : Option Addr) (cctks : Nat) (aces : Option Addr) (cces : Nat), vv = .agg #[.int .i64 k, .int .i64 v, .slice ads ds.length cds, .int .i64 ctk, .int .i64 ctv, .slice actds ctds.length cctds, .slice actks ctks.length cctks, .slice aces ces.length cces] ∧ RdS W (Fr.d (Fr.mk k v ds (Cl.mk (Co.mk ctk ctv ctds ctks) ces))) [.int .i64 k, .int .i64 v, .slice ads ds.length cds, .int .i64 ctk, .int .i64 ctv, .slice actds ctds.length cctds, .slice actks ctks.length cctks, .slice aces ces.length cces] := by
  obtain ⟨cs, rfl, _⟩ := okWide_struct Try.underlying115 hv
  obtain ⟨fuel, hf⟩ := h
  obtain ⟨_, d', F, h1, h2⟩ := trod_rd tidsFr_ok tidsFr_cells fuel _ _ _ (by simp [tidsFr]) hf
  obtain ⟨⟨k, v, ds, ⟨⟨ctk, ctv, ctds, ctks⟩, ces⟩⟩, rfl⟩ := typed_Fr _ _ h2
  obtain ⟨ads, cds, actds, cctds, actks, cctks, aces, cces, hc, -⟩ := h1.Fr_inv
  rw [hc] at h1
  refine ⟨k, v, ds, ctk, ctv, ctds, ctks, ces, ads, cds, actds, cctds, actks, cctks, aces, cces, ?_, ⟨F, h1⟩⟩
  have : cs = #[.int .i64 k, .int .i64 v, .slice ads ds.length cds, .int .i64 ctk, .int .i64 ctv, .slice actds ctds.length cctds, .slice actks ctks.length cctks, .slice aces ces.length cces] := by
    apply Array.toList_inj.1
    simpa [Value.cells] using hc
  rw [this]
def tidsFrs : List TypeId := [57, 115, 2, 28, 56, 30, 25]
theorem tidsFrs_ok : tidsFrs.all (okTy Try.prog tidsFrs) = true := by kernel_rfl -- 57
theorem tidsFrs_cells : tidsFrs.all (fun t => match Try.prog.underlying t with | some (.int _) => Try.prog.cellsOf t == 1 | some .bool => Try.prog.cellsOf t == 1 | some .string => Try.prog.cellsOf t == 1 | some (.slice _) => Try.prog.cellsOf t == 1 | _ => true) = true := by kernel_rfl -- 57
set_option maxRecDepth 100000 in
/-- Handed in. -/
theorem arg_Frs {H : Type} {enc : TypeId × Value → H} {W : World} {base : Nat} {vv : Value} {d : DataW H} {p : List MemPlace} (hv : Value.okWide Try.prog W .any base 57 vv)
    (h : DataW.Trod enc Try.prog W 0 (fun _ => true) true 57 vv d p) : ∃ (ts : List Fr) (a : Option Addr) (c : Nat), vv = .slice a ts.length c ∧ RdL W (Fr.ds ts) (.slice a ts.length c) := by
  obtain ⟨_, _, _, rfl⟩ := okWide_slice Try.underlying57 hv
  obtain ⟨fuel, hf⟩ := h
  obtain ⟨_, d', F, h1, h2⟩ := trod_rd tidsFrs_ok tidsFrs_cells fuel _ _ _ (by simp [tidsFrs]) hf
  obtain ⟨ts, rfl⟩ := typed_Frs _ _ h2
  obtain ⟨a, cap, hc, -⟩ := h1.list_inv
  rw [Fr.ds_length] at hc
  simp only [Value.cells, List.cons.injEq, and_true] at hc
  rw [hc] at h1 ⊢
  exact ⟨ts, a, cap, rfl, F, h1⟩

end Go.Proofs.Ytlbebnmhldolnaa

namespace Go.Proofs.Ytlbebnmhldolnaa
open Go.ChangeShapes Go.WideShapes Go.ChangeAt Go.RowKit
set_option linter.unusedVariables false

set_option maxRecDepth 100000 in
theorem typed_Th : ∀ (n : Nat) (d : D), Typed Try.prog n 118 d → ∃ t : Th, d = Th.d t
  | 0, _, h => by simp [Typed] at h
  | n + 1, d, h => by
    unfold Typed at h
    rw [Try.underlying118] at h
    obtain ⟨ds, rfl, h⟩ := h
    match ds, h with
    | [d0, d1], ⟨h0, h1, _⟩ =>
      match n, h0, h1 with
      | n + 1, h0, h1 =>
        unfold Typed at h0
        rw [Try.underlying4] at h0
        obtain ⟨x0, rfl⟩ := h0
        obtain ⟨x1, rfl⟩ := typed_Cl (n + 1) d1 h1
        exact ⟨.mk x0 x1, rfl⟩
set_option maxRecDepth 100000 in
theorem typed_Ths : ∀ (n : Nat) (d : D), Typed Try.prog n 58 d → ∃ ts : List Th, d = .list (Th.ds ts)
  | 0, _, h => by simp [Typed] at h
  | n + 1, d, h => by
    unfold Typed at h
    rw [Try.underlying58] at h
    obtain ⟨ds, rfl, h⟩ := h
    have key : ∀ ds : List D, (∀ x ∈ ds, Typed Try.prog n 118 x) → ∃ ts, ds = Th.ds ts := by
      intro ds
      induction ds with
      | nil => exact fun _ => ⟨[], rfl⟩
      | cons x xs ih =>
        intro hx
        obtain ⟨t, ht⟩ := typed_Th n x (hx x (by simp))
        obtain ⟨ts, hts⟩ := ih fun y hy => hx y (by simp [hy])
        exact ⟨t :: ts, by rw [ht, hts]; rfl⟩
    obtain ⟨ts, rfl⟩ := key ds h
    exact ⟨ts, rfl⟩

def tidsTh : List TypeId := [118, 4, 56, 30, 2, 28, 25]
theorem tidsTh_ok : tidsTh.all (okTy Try.prog tidsTh) = true := by kernel_rfl -- 118
theorem tidsTh_cells : tidsTh.all (fun t => match Try.prog.underlying t with | some (.int _) => Try.prog.cellsOf t == 1 | some .bool => Try.prog.cellsOf t == 1 | some .string => Try.prog.cellsOf t == 1 | some (.slice _) => Try.prog.cellsOf t == 1 | _ => true) = true := by kernel_rfl -- 118
set_option maxRecDepth 100000 in
/-- Handed in. -/
theorem arg_Th {H : Type} {enc : TypeId × Value → H} {W : World} {base : Nat} {vv : Value} {d : DataW H} {p : List MemPlace} (hv : Value.okWide Try.prog W .any base 118 vv)
    (h : DataW.Trod enc Try.prog W 0 (fun _ => true) true 118 vv d p) : ∃ (dn : Bool) (ctk : Int) (ctv : Int) (ctds : List Int) (ctks : List Co) (ces : List Int) (actds : Option Addr) (cctds : Nat) (actks : Option Addr) (cctks : Nat) (aces : Option Addr) (cces : Nat), vv = .agg #[.bool dn, .int .i64 ctk, .int .i64 ctv, .slice actds ctds.length cctds, .slice actks ctks.length cctks, .slice aces ces.length cces] ∧ RdS W (Th.d (Th.mk dn (Cl.mk (Co.mk ctk ctv ctds ctks) ces))) [.bool dn, .int .i64 ctk, .int .i64 ctv, .slice actds ctds.length cctds, .slice actks ctks.length cctks, .slice aces ces.length cces] := by
  obtain ⟨cs, rfl, _⟩ := okWide_struct Try.underlying118 hv
  obtain ⟨fuel, hf⟩ := h
  obtain ⟨_, d', F, h1, h2⟩ := trod_rd tidsTh_ok tidsTh_cells fuel _ _ _ (by simp [tidsTh]) hf
  obtain ⟨⟨dn, ⟨⟨ctk, ctv, ctds, ctks⟩, ces⟩⟩, rfl⟩ := typed_Th _ _ h2
  obtain ⟨actds, cctds, actks, cctks, aces, cces, hc, -⟩ := h1.Th_inv
  rw [hc] at h1
  refine ⟨dn, ctk, ctv, ctds, ctks, ces, actds, cctds, actks, cctks, aces, cces, ?_, ⟨F, h1⟩⟩
  have : cs = #[.bool dn, .int .i64 ctk, .int .i64 ctv, .slice actds ctds.length cctds, .slice actks ctks.length cctks, .slice aces ces.length cces] := by
    apply Array.toList_inj.1
    simpa [Value.cells] using hc
  rw [this]
def tidsThs : List TypeId := [58, 118, 4, 56, 30, 2, 28, 25]
theorem tidsThs_ok : tidsThs.all (okTy Try.prog tidsThs) = true := by kernel_rfl -- 58
theorem tidsThs_cells : tidsThs.all (fun t => match Try.prog.underlying t with | some (.int _) => Try.prog.cellsOf t == 1 | some .bool => Try.prog.cellsOf t == 1 | some .string => Try.prog.cellsOf t == 1 | some (.slice _) => Try.prog.cellsOf t == 1 | _ => true) = true := by kernel_rfl -- 58
set_option maxRecDepth 100000 in
/-- Handed in. -/
theorem arg_Ths {H : Type} {enc : TypeId × Value → H} {W : World} {base : Nat} {vv : Value} {d : DataW H} {p : List MemPlace} (hv : Value.okWide Try.prog W .any base 58 vv)
    (h : DataW.Trod enc Try.prog W 0 (fun _ => true) true 58 vv d p) : ∃ (ts : List Th) (a : Option Addr) (c : Nat), vv = .slice a ts.length c ∧ RdL W (Th.ds ts) (.slice a ts.length c) := by
  obtain ⟨_, _, _, rfl⟩ := okWide_slice Try.underlying58 hv
  obtain ⟨fuel, hf⟩ := h
  obtain ⟨_, d', F, h1, h2⟩ := trod_rd tidsThs_ok tidsThs_cells fuel _ _ _ (by simp [tidsThs]) hf
  obtain ⟨ts, rfl⟩ := typed_Ths _ _ h2
  obtain ⟨a, cap, hc, -⟩ := h1.list_inv
  rw [Th.ds_length] at hc
  simp only [Value.cells, List.cons.injEq, and_true] at hc
  rw [hc] at h1 ⊢
  exact ⟨ts, a, cap, rfl, F, h1⟩

end Go.Proofs.Ytlbebnmhldolnaa

namespace Go.Proofs.Ytlbebnmhldolnaa
open Go.ChangeShapes Go.WideShapes Go.ChangeAt Go.RowKit
set_option linter.unusedVariables false

set_option maxRecDepth 100000 in
theorem typed_Ne : ∀ (n : Nat) (d : D), Typed Try.prog n 60 d → ∃ t : Ne, d = Ne.d t
  | 0, _, h => by simp [Typed] at h
  | n + 1, d, h => by
    unfold Typed at h
    rw [Try.underlying60] at h
    obtain ⟨ds, rfl, h⟩ := h
    match ds, h with
    | [d0, d1, d2], ⟨h0, h1, h2, _⟩ =>
      match n, h0, h1, h2 with
      | n + 1, h0, h1, h2 =>
        obtain ⟨x0, rfl⟩ := typed_Cl (n + 1) d0 h0
        obtain ⟨x1, rfl⟩ := typed_Frs (n + 1) d1 h1
        obtain ⟨x2, rfl⟩ := typed_Ths (n + 1) d2 h2
        exact ⟨.mk x0 x1 x2, rfl⟩
def tidsNe : List TypeId := [60, 56, 30, 2, 28, 25, 57, 115, 58, 118, 4]
theorem tidsNe_ok : tidsNe.all (okTy Try.prog tidsNe) = true := by kernel_rfl -- 60
theorem tidsNe_cells : tidsNe.all (fun t => match Try.prog.underlying t with | some (.int _) => Try.prog.cellsOf t == 1 | some .bool => Try.prog.cellsOf t == 1 | some .string => Try.prog.cellsOf t == 1 | some (.slice _) => Try.prog.cellsOf t == 1 | _ => true) = true := by kernel_rfl -- 60
set_option maxRecDepth 100000 in
/-- Handed in. -/
theorem arg_Ne {H : Type} {enc : TypeId × Value → H} {W : World} {base : Nat} {vv : Value} {d : DataW H} {p : List MemPlace} (hv : Value.okWide Try.prog W .any base 60 vv)
    (h : DataW.Trod enc Try.prog W 0 (fun _ => true) true 60 vv d p) : ∃ (ctk : Int) (ctv : Int) (ctds : List Int) (ctks : List Co) (ces : List Int) (ss : List Fr) (hs : List Th) (actds : Option Addr) (cctds : Nat) (actks : Option Addr) (cctks : Nat) (aces : Option Addr) (cces : Nat) (ass : Option Addr) (css : Nat) (ahs : Option Addr) (chs : Nat), vv = .agg #[.int .i64 ctk, .int .i64 ctv, .slice actds ctds.length cctds, .slice actks ctks.length cctks, .slice aces ces.length cces, .slice ass ss.length css, .slice ahs hs.length chs] ∧ RdS W (Ne.d (Ne.mk (Cl.mk (Co.mk ctk ctv ctds ctks) ces) ss hs)) [.int .i64 ctk, .int .i64 ctv, .slice actds ctds.length cctds, .slice actks ctks.length cctks, .slice aces ces.length cces, .slice ass ss.length css, .slice ahs hs.length chs] := by
  obtain ⟨cs, rfl, _⟩ := okWide_struct Try.underlying60 hv
  obtain ⟨fuel, hf⟩ := h
  obtain ⟨_, d', F, h1, h2⟩ := trod_rd tidsNe_ok tidsNe_cells fuel _ _ _ (by simp [tidsNe]) hf
  obtain ⟨⟨⟨⟨ctk, ctv, ctds, ctks⟩, ces⟩, ss, hs⟩, rfl⟩ := typed_Ne _ _ h2
  obtain ⟨actds, cctds, actks, cctks, aces, cces, ass, css, ahs, chs, hc, -⟩ := h1.Ne_inv
  rw [hc] at h1
  refine ⟨ctk, ctv, ctds, ctks, ces, ss, hs, actds, cctds, actks, cctks, aces, cces, ass, css, ahs, chs, ?_, ⟨F, h1⟩⟩
  have : cs = #[.int .i64 ctk, .int .i64 ctv, .slice actds ctds.length cctds, .slice actks ctks.length cctks, .slice aces ces.length cces, .slice ass ss.length css, .slice ahs hs.length chs] := by
    apply Array.toList_inj.1
    simpa [Value.cells] using hc
  rw [this]
end Go.Proofs.Ytlbebnmhldolnaa

namespace Go.Proofs.Ytlbebnmhldolnaa
open Go.ChangeShapes Go.WideShapes Go.ChangeAt Go.RowKit
open Go.Sort (grow)
set_option linter.unusedVariables false

/-- Handed back: the call's own copy. -/
def GivesCl (tk : Int) (tv : Int) (tds : List Int) (tks : List Co) (es : List Int) (w : World) (e : Ending) (w' : World) : Prop :=
  ∃ (atds : Option Addr) (ctds : Nat) (atks : Option Addr) (ctks : Nat) (aes : Option Addr) (ces : Nat), e = .returned (.agg #[.int .i64 tk, .int .i64 tv, .slice atds tds.length ctds, .slice atks tks.length ctks, .slice aes es.length ces]) ∧ OwnS w' w.heap.size (Cl.d (Cl.mk (Co.mk tk tv tds tks) es)) [.int .i64 tk, .int .i64 tv, .slice atds tds.length ctds, .slice atks tks.length ctks, .slice aes es.length ces] ∧ Below w.heap.size w w'
def GivesCls (ts : List Cl) (w : World) (e : Ending) (w' : World) : Prop :=
  ∃ (a : Option Addr) (c : Nat), e = .returned (.slice a ts.length c) ∧ OwnL w' w.heap.size (Cl.ds ts) (.slice a ts.length c) ∧ Below w.heap.size w w'
abbrev ToCl : Prop := ∀ (tk : Int) (tv : Int) (tds : List Int) (tks : List Co) (es : List Int) (atds : Option Addr) (ctds : Nat) (atks : Option Addr) (ctks : Nat) (aes : Option Addr) (ces : Nat) (w : World), Cl.bulk (Cl.mk (Co.mk tk tv tds tks) es) ≤ 1048576 → RdS w (Cl.d (Cl.mk (Co.mk tk tv tds tks) es)) [.int .i64 tk, .int .i64 tv, .slice atds tds.length ctds, .slice atks tks.length ctks, .slice aes es.length ces] →
  Calls Try.prog 56 #[.agg #[.int .i64 tk, .int .i64 tv, .slice atds tds.length ctds, .slice atks tks.length ctks, .slice aes es.length ces]] w (GivesCl tk tv tds tks es w)
theorem toCl : ToCl := by
  intro tk tv tds tks es atds ctds atks ctks aes ces w hM hr
  have hbk : Cl.bulk (Cl.mk (Co.mk tk tv tds tks) es) = Co.bulk (Co.mk tk tv tds tks) + In.bulks es := rfl
  obtain ⟨⟨⟨lotk, hitk⟩, ⟨lotv, hitv⟩, htds, htks⟩, hes⟩ := hr.fCl
  have hc1 := fun (W : World) (hb : Below w.heap.size w W) => toCo tk tv tds tks atds ctds atks ctks W (by omega) ((RdS.subCl_t hr).below hb)
  have hc2 := fun (W : World) (hb : Below w.heap.size w W) => toIns es aes ces W (by omega) (hes.below hb)
  have HC1 := hid hc1
  have HC2 := hid hc2
  have hB0 : Below w.heap.size w (w.alloc (.cells #[.int .i64 tk, .int .i64 tv, .slice atds tds.length ctds, .slice atks tks.length ctks, .slice aes es.length ces] 56)) := (Below.refl _ _).alloc (Nat.le_refl _) _
  clear hr hbk hM hc1 hc2 hB0 htds htks hes
  go_enter Try.func56, Try.ntmps56
  go_wp2_with fail
  refine (HC1.out _ ((((Below.refl _ _).alloc (Nat.le_refl _) _).alloc (by simp) _).alloc (by simp; omega) _)).mono ?_
  rintro e w1 ⟨atds_1, ctds_1, atks_1, ctks_1, rfl, ho1, hb1⟩
  obtain ⟨hcl1, hfz1⟩ := bcell hb1
  have hz1 : w.heap.size + 1 + 1 < w1.heap.size := by have := hb1.size; simp at this; omega
  have hy1 : w.heap.size + 1 < w1.heap.size := by omega
  have hx1 : w.heap.size < w1.heap.size := by omega
  have hbw1 : Below w.heap.size w w1 := ((((Below.refl _ _).alloc (Nat.le_refl _) _).alloc (by simp) _).alloc (by simp; omega) _).trans (hb1.mono (by simp; omega))
  have HO1 := hid (ho1.mono (base' := w.heap.size + 3) (by simp))
  have HT1 := hid (Nat.le_refl w1.heap.size)
  clear HC1 ho1
  have hbs1 := ((((hbw1.setCell (p := ⟨w.heap.size + 1 + 1, 0, none⟩) (by simp; omega) (.int .i64 tk)).setCell (p := ⟨w.heap.size + 1 + 1, 1, none⟩) (by simp; omega) (.int .i64 tv)).setCell (p := ⟨w.heap.size + 1 + 1, 2, none⟩) (by simp; omega) (.slice atds_1 tds.length ctds_1)).setCell (p := ⟨w.heap.size + 1 + 1, 3, none⟩) (by simp; omega) (.slice atks_1 tks.length ctks_1))
  have HKS1 := hid (((((Keeps.refl (w.heap.size + 3) w1).setCell (p := ⟨w.heap.size + 1 + 1, 0, none⟩) (by simp) (.int .i64 tk)).setCell (p := ⟨w.heap.size + 1 + 1, 1, none⟩) (by simp) (.int .i64 tv)).setCell (p := ⟨w.heap.size + 1 + 1, 2, none⟩) (by simp) (.slice atds_1 tds.length ctds_1)).setCell (p := ⟨w.heap.size + 1 + 1, 3, none⟩) (by simp) (.slice atks_1 tks.length ctks_1))
  go_wp2_with fail
  refine (HC2.out _ hbs1).mono ?_
  rintro e w2 ⟨aes_2, ces_2, rfl, ho2, hb2⟩
  obtain ⟨hcl2, hfz2⟩ := bcell hb2
  have hz2 : w.heap.size + 1 + 1 < w2.heap.size := by have := hb2.size; simp at this; omega
  have hbw2 : Below w.heap.size w w2 := hbs1.trans (hb2.mono hbs1.size)
  have hsz2 : w1.heap.size ≤ w2.heap.size := by have := hb2.size; simpa using this
  have HK2 := hid (HKS1.out.below hb2)
  have HO2 := hid (ho2.mono (base' := w1.heap.size) (by simp))
  clear HC2 ho2 HKS1
  go_wp2_with fail
  refine bodyPost_ret (v := .agg #[.int .i64 tk, .int .i64 tv, .slice atds_1 tds.length ctds_1, .slice atks_1 tks.length ctks_1, .slice aes_2 es.length ces_2]) (by simp [results, Try.results56, go_sem, hcl1, hcl2, hy1]) rfl ⟨atds_1, ctds_1, atks_1, ctks_1, aes_2, ces_2, rfl, ?_, ?_⟩
  · have hfin := ((((((HK2.out.setCell (p := ⟨w.heap.size + 1 + 1, 4, none⟩) (by simp) (.slice aes_2 es.length ces_2)).setCell (p := ⟨w.heap.size + 1, 0, none⟩) (by simp) (.int .i64 tk)).setCell (p := ⟨w.heap.size + 1, 1, none⟩) (by simp) (.int .i64 tv)).setCell (p := ⟨w.heap.size + 1, 2, none⟩) (by simp) (.slice atds_1 tds.length ctds_1)).setCell (p := ⟨w.heap.size + 1, 3, none⟩) (by simp) (.slice atks_1 tks.length ctks_1)).setCell (p := ⟨w.heap.size + 1, 4, none⟩) (by simp) (.slice aes_2 es.length ces_2))
    have hfin2 := (((((((Keeps.refl (w.heap.size + 3) w2).setCell (p := ⟨w.heap.size + 1 + 1, 4, none⟩) (by simp) (.slice aes_2 es.length ces_2)).setCell (p := ⟨w.heap.size + 1, 0, none⟩) (by simp) (.int .i64 tk)).setCell (p := ⟨w.heap.size + 1, 1, none⟩) (by simp) (.int .i64 tv)).setCell (p := ⟨w.heap.size + 1, 2, none⟩) (by simp) (.slice atds_1 tds.length ctds_1)).setCell (p := ⟨w.heap.size + 1, 3, none⟩) (by simp) (.slice atks_1 tks.length ctks_1)).setCell (p := ⟨w.heap.size + 1, 4, none⟩) (by simp) (.slice aes_2 es.length ces_2))
    have hp := (PartAll.cons (HO1.out.part.keeps hfin (by first | exact Nat.le_refl _ | omega) (Nat.le_refl _)) (PartAll.cons (HO2.out.part.keeps hfin2 (by first | exact Nat.le_refl _ | omega) (Nat.le_refl _)) (PartAll.nil _ w2.heap.size w2.heap.size) (Nat.le_refl _) (by omega) (by omega)) (Nat.le_refl _) (by omega) (by omega))
    exact OwnS.mono (base := w.heap.size + 3) hp.own (by omega)
  · exact ((((((hbw2.setCell (by simp; try omega) _).setCell (by simp; try omega) _).setCell (by simp; try omega) _).setCell (by simp; try omega) _).setCell (by simp; try omega) _).setCell (by simp; try omega) _)

theorem infoCl : (Try.prog.info? 37).map (fun i => (i.zero, i.size, i.bytes)) = some (some (.agg #[.int .i64 0, .int .i64 0, .slice none 0 0, .slice none 0 0, .slice none 0 0]), 5, 88) := by kernel_rfl
end Go.Proofs.Ytlbebnmhldolnaa

namespace Go.Proofs.Ytlbebnmhldolnaa
open Go.ChangeShapes Go.WideShapes Go.ChangeAt Go.RowKit
open Go.Sort (grow)
set_option linter.unusedVariables false

/-- Handed back: the call's own copy. -/
def GivesFr (k : Int) (v : Int) (ds : List Int) (ctk : Int) (ctv : Int) (ctds : List Int) (ctks : List Co) (ces : List Int) (w : World) (e : Ending) (w' : World) : Prop :=
  ∃ (ads : Option Addr) (cds : Nat) (actds : Option Addr) (cctds : Nat) (actks : Option Addr) (cctks : Nat) (aces : Option Addr) (cces : Nat), e = .returned (.agg #[.int .i64 k, .int .i64 v, .slice ads ds.length cds, .int .i64 ctk, .int .i64 ctv, .slice actds ctds.length cctds, .slice actks ctks.length cctks, .slice aces ces.length cces]) ∧ OwnS w' w.heap.size (Fr.d (Fr.mk k v ds (Cl.mk (Co.mk ctk ctv ctds ctks) ces))) [.int .i64 k, .int .i64 v, .slice ads ds.length cds, .int .i64 ctk, .int .i64 ctv, .slice actds ctds.length cctds, .slice actks ctks.length cctks, .slice aces ces.length cces] ∧ Below w.heap.size w w'
def GivesFrs (ts : List Fr) (w : World) (e : Ending) (w' : World) : Prop :=
  ∃ (a : Option Addr) (c : Nat), e = .returned (.slice a ts.length c) ∧ OwnL w' w.heap.size (Fr.ds ts) (.slice a ts.length c) ∧ Below w.heap.size w w'
abbrev ToFr : Prop := ∀ (k : Int) (v : Int) (ds : List Int) (ctk : Int) (ctv : Int) (ctds : List Int) (ctks : List Co) (ces : List Int) (ads : Option Addr) (cds : Nat) (actds : Option Addr) (cctds : Nat) (actks : Option Addr) (cctks : Nat) (aces : Option Addr) (cces : Nat) (w : World), Fr.bulk (Fr.mk k v ds (Cl.mk (Co.mk ctk ctv ctds ctks) ces)) ≤ 1048576 → RdS w (Fr.d (Fr.mk k v ds (Cl.mk (Co.mk ctk ctv ctds ctks) ces))) [.int .i64 k, .int .i64 v, .slice ads ds.length cds, .int .i64 ctk, .int .i64 ctv, .slice actds ctds.length cctds, .slice actks ctks.length cctks, .slice aces ces.length cces] →
  Calls Try.prog 89 #[.agg #[.int .i64 k, .int .i64 v, .slice ads ds.length cds, .int .i64 ctk, .int .i64 ctv, .slice actds ctds.length cctds, .slice actks ctks.length cctks, .slice aces ces.length cces]] w (GivesFr k v ds ctk ctv ctds ctks ces w)
theorem toFr : ToFr := by
  intro k v ds ctk ctv ctds ctks ces ads cds actds cctds actks cctks aces cces w hM hr
  have hbk : Fr.bulk (Fr.mk k v ds (Cl.mk (Co.mk ctk ctv ctds ctks) ces)) = In.bulks ds + Cl.bulk (Cl.mk (Co.mk ctk ctv ctds ctks) ces) := rfl
  obtain ⟨⟨lok, hik⟩, ⟨lov, hiv⟩, hds, ⟨⟨⟨loctk, hictk⟩, ⟨loctv, hictv⟩, hctds, hctks⟩, hces⟩⟩ := hr.fFr
  have hc1 := fun (W : World) (hb : Below w.heap.size w W) => toIns ds ads cds W (by omega) (hds.below hb)
  have hc2 := fun (W : World) (hb : Below w.heap.size w W) => toCl ctk ctv ctds ctks ces actds cctds actks cctks aces cces W (by omega) ((RdS.subFr_c hr).below hb)
  have HC1 := hid hc1
  have HC2 := hid hc2
  have hB0 : Below w.heap.size w (w.alloc (.cells #[.int .i64 k, .int .i64 v, .slice ads ds.length cds, .int .i64 ctk, .int .i64 ctv, .slice actds ctds.length cctds, .slice actks ctks.length cctks, .slice aces ces.length cces] 115)) := (Below.refl _ _).alloc (Nat.le_refl _) _
  clear hr hbk hM hc1 hc2 hB0 hds hctds hctks hces
  go_enter Try.func89, Try.ntmps89
  go_wp2_with fail
  refine (HC1.out _ ((((Below.refl _ _).alloc (Nat.le_refl _) _).alloc (by simp) _).alloc (by simp; omega) _)).mono ?_
  rintro e w1 ⟨ads_1, cds_1, rfl, ho1, hb1⟩
  obtain ⟨hcl1, hfz1⟩ := bcell hb1
  have hz1 : w.heap.size + 1 + 1 < w1.heap.size := by have := hb1.size; simp at this; omega
  have hy1 : w.heap.size + 1 < w1.heap.size := by omega
  have hx1 : w.heap.size < w1.heap.size := by omega
  have hbw1 : Below w.heap.size w w1 := ((((Below.refl _ _).alloc (Nat.le_refl _) _).alloc (by simp) _).alloc (by simp; omega) _).trans (hb1.mono (by simp; omega))
  have HO1 := hid (ho1.mono (base' := w.heap.size + 3) (by simp))
  have HT1 := hid (Nat.le_refl w1.heap.size)
  clear HC1 ho1
  have hbs1 := (hbw1.setCell (p := ⟨w.heap.size + 1 + 1, 2, none⟩) (by simp; omega) (.slice ads_1 ds.length cds_1))
  have HKS1 := hid ((Keeps.refl (w.heap.size + 3) w1).setCell (p := ⟨w.heap.size + 1 + 1, 2, none⟩) (by simp) (.slice ads_1 ds.length cds_1))
  go_wp2_with fail
  refine (HC2.out _ hbs1).mono ?_
  rintro e w2 ⟨actds_2, cctds_2, actks_2, cctks_2, aces_2, cces_2, rfl, ho2, hb2⟩
  obtain ⟨hcl2, hfz2⟩ := bcell hb2
  have hz2 : w.heap.size + 1 + 1 < w2.heap.size := by have := hb2.size; simp at this; omega
  have hbw2 : Below w.heap.size w w2 := hbs1.trans (hb2.mono hbs1.size)
  have hsz2 : w1.heap.size ≤ w2.heap.size := by have := hb2.size; simpa using this
  have HK2 := hid (HKS1.out.below hb2)
  have HO2 := hid (ho2.mono (base' := w1.heap.size) (by simp))
  clear HC2 ho2 HKS1
  go_wp2_with fail
  refine bodyPost_ret (v := .agg #[.int .i64 k, .int .i64 v, .slice ads_1 ds.length cds_1, .int .i64 ctk, .int .i64 ctv, .slice actds_2 ctds.length cctds_2, .slice actks_2 ctks.length cctks_2, .slice aces_2 ces.length cces_2]) (by simp [results, Try.results89, go_sem, hcl1, hcl2, hy1]) rfl ⟨ads_1, cds_1, actds_2, cctds_2, actks_2, cctks_2, aces_2, cces_2, rfl, ?_, ?_⟩
  · have hfin := (((((((((((((HK2.out.setCell (p := ⟨w.heap.size + 1 + 1, 3, none⟩) (by simp) (.int .i64 ctk)).setCell (p := ⟨w.heap.size + 1 + 1, 4, none⟩) (by simp) (.int .i64 ctv)).setCell (p := ⟨w.heap.size + 1 + 1, 5, none⟩) (by simp) (.slice actds_2 ctds.length cctds_2)).setCell (p := ⟨w.heap.size + 1 + 1, 6, none⟩) (by simp) (.slice actks_2 ctks.length cctks_2)).setCell (p := ⟨w.heap.size + 1 + 1, 7, none⟩) (by simp) (.slice aces_2 ces.length cces_2)).setCell (p := ⟨w.heap.size + 1, 0, none⟩) (by simp) (.int .i64 k)).setCell (p := ⟨w.heap.size + 1, 1, none⟩) (by simp) (.int .i64 v)).setCell (p := ⟨w.heap.size + 1, 2, none⟩) (by simp) (.slice ads_1 ds.length cds_1)).setCell (p := ⟨w.heap.size + 1, 3, none⟩) (by simp) (.int .i64 ctk)).setCell (p := ⟨w.heap.size + 1, 4, none⟩) (by simp) (.int .i64 ctv)).setCell (p := ⟨w.heap.size + 1, 5, none⟩) (by simp) (.slice actds_2 ctds.length cctds_2)).setCell (p := ⟨w.heap.size + 1, 6, none⟩) (by simp) (.slice actks_2 ctks.length cctks_2)).setCell (p := ⟨w.heap.size + 1, 7, none⟩) (by simp) (.slice aces_2 ces.length cces_2))
    have hfin2 := ((((((((((((((Keeps.refl (w.heap.size + 3) w2).setCell (p := ⟨w.heap.size + 1 + 1, 3, none⟩) (by simp) (.int .i64 ctk)).setCell (p := ⟨w.heap.size + 1 + 1, 4, none⟩) (by simp) (.int .i64 ctv)).setCell (p := ⟨w.heap.size + 1 + 1, 5, none⟩) (by simp) (.slice actds_2 ctds.length cctds_2)).setCell (p := ⟨w.heap.size + 1 + 1, 6, none⟩) (by simp) (.slice actks_2 ctks.length cctks_2)).setCell (p := ⟨w.heap.size + 1 + 1, 7, none⟩) (by simp) (.slice aces_2 ces.length cces_2)).setCell (p := ⟨w.heap.size + 1, 0, none⟩) (by simp) (.int .i64 k)).setCell (p := ⟨w.heap.size + 1, 1, none⟩) (by simp) (.int .i64 v)).setCell (p := ⟨w.heap.size + 1, 2, none⟩) (by simp) (.slice ads_1 ds.length cds_1)).setCell (p := ⟨w.heap.size + 1, 3, none⟩) (by simp) (.int .i64 ctk)).setCell (p := ⟨w.heap.size + 1, 4, none⟩) (by simp) (.int .i64 ctv)).setCell (p := ⟨w.heap.size + 1, 5, none⟩) (by simp) (.slice actds_2 ctds.length cctds_2)).setCell (p := ⟨w.heap.size + 1, 6, none⟩) (by simp) (.slice actks_2 ctks.length cctks_2)).setCell (p := ⟨w.heap.size + 1, 7, none⟩) (by simp) (.slice aces_2 ces.length cces_2))
    have hp := (((PartAll.cons (HO1.out.part.keeps hfin (by first | exact Nat.le_refl _ | omega) (Nat.le_refl _)) (PartAll.cons (HO2.out.part.keeps hfin2 (by first | exact Nat.le_refl _ | omega) (Nat.le_refl _)) (PartAll.nil _ w2.heap.size w2.heap.size) (Nat.le_refl _) (by omega) (by omega)) (Nat.le_refl _) (by omega) (by omega)).plain (Rd.int_mk lov hiv)).plain (Rd.int_mk lok hik))
    exact OwnS.mono (base := w.heap.size + 3) hp.own (by omega)
  · exact (((((((((((((hbw2.setCell (by simp; try omega) _).setCell (by simp; try omega) _).setCell (by simp; try omega) _).setCell (by simp; try omega) _).setCell (by simp; try omega) _).setCell (by simp; try omega) _).setCell (by simp; try omega) _).setCell (by simp; try omega) _).setCell (by simp; try omega) _).setCell (by simp; try omega) _).setCell (by simp; try omega) _).setCell (by simp; try omega) _).setCell (by simp; try omega) _)

theorem infoFr : (Try.prog.info? 102).map (fun i => (i.zero, i.size, i.bytes)) = some (some (.agg #[.int .i64 0, .int .i64 0, .slice none 0 0, .int .i64 0, .int .i64 0, .slice none 0 0, .slice none 0 0, .slice none 0 0]), 8, 128) := by kernel_rfl
theorem makeFr (n : Nat) (hn : n ≤ 1048576) : ∃ C : Array Value, C.size = n * 8 ∧ ∀ w : World, (Instr.makeSlice 38 (.int .i64 (n : Int)) (.int .i64 (n : Int))).run Try.prog w = .ok (.slice (some ⟨w.heap.size, 0, none⟩) n n) (w.alloc (.cells C 102)) := by
  obtain ⟨i, hi, hz, hs, hb⟩ := info_parts infoFr
  refine ⟨madeCells (Value.cells (.agg #[.int .i64 0, .int .i64 0, .slice none 0 0, .int .i64 0, .int .i64 0, .slice none 0 0, .slice none 0 0, .slice none 0 0])) (n * 8), size_madeCells _ _, fun w => ?_⟩
  have := run_make (P := Try.prog) w 38 102 i _ Try.underlying38 hi hz .i64 .i64 n n (by omega) (Int.le_refl _) (by rw [hb]; omega) (by omega)
  simp only [Int.toNat_natCast, hs] at this
  exact this
theorem toFrs (ts : List Fr) (a : Option Addr) (c : Nat) (w : World) (hM : Fr.bulks ts ≤ 1048576) (hr : RdL w (Fr.ds ts) (.slice a ts.length c)) :
    Calls Try.prog 57 #[.slice a ts.length c] w (GivesFrs ts w) := by
  obtain ⟨_, _, e, h2, h3, h4⟩ := hr.eFr
  simp only [Value.slice.injEq, true_and] at e
  obtain ⟨rfl, rfl⟩ := e
  have hl := Fr.bulks_length ts
  obtain ⟨C, hC, hmk⟩ := makeFr ts.length (by omega)
  have HC := hid hC
  have H4 := hid h4
  clear hr h4 hC
  go_enter Try.func57, Try.ntmps57
  go_wp2_with fail
  clear hmk
  go_loopw [4] (fun i wr => ∃ (j : Nat), j ≤ ts.length ∧ i = .int .i64 j ∧ ∃ (cur : Array Value) (F : List Nat), wr.heap[w.heap.size]? = some (.cells cur 102 (0, 0)) ∧ Hid (cur.size = ts.length * 8) ∧ Hid (RdAll wr (Fr.ds (ts.take j)) (cur.toList.take (j * 8)) F) ∧ Owned wr (w.heap.size + 1) F ∧ Below w.heap.size w wr) (fun i _ => ts.length - (intOf i).toNat)
  case atStart => exact ⟨0, by omega, rfl, C, [], heap_alloc_new _ _, HC.out, by show RdAll _ _ _ _; simpa [Fr.ds] using RdAll.nil, Owned.nil _ _, (Below.refl _ _).alloc (Nat.le_refl _) _⟩
  case round =>
    obtain ⟨j, hj, rfl, cur, F, hcur, HS, HR, HO, hb⟩ := hrel
    by_cases hlt : j < ts.length
    · obtain ⟨b, o, rfl, hbl, hall⟩ := H4.out (by omega)
      obtain ⟨t, ht⟩ : ∃ t, ts[j]? = some t := ⟨_, List.getElem?_eq_getElem hlt⟩
      obtain ⟨k1, v1, ds1, ⟨⟨ctk1, ctv1, ctds1, ctks1⟩, ces1⟩⟩ := t
      obtain ⟨ads1, cds1, actds1, cctds1, actks1, cctks1, aces1, cces1, q0, q1, q2, q3, q4, q5, q6, q7, hrk⟩ := hall j k1 v1 ds1 ctk1 ctv1 ctds1 ctks1 ces1 ht
      clear hall H4
      have d0 := (hb.cell (p := ⟨b, o + j * 8, none⟩) hbl).trans q0
      have d1 := (hb.cell (p := ⟨b, o + j * 8 + 1, none⟩) hbl).trans q1
      have d2 := (hb.cell (p := ⟨b, o + j * 8 + 2, none⟩) hbl).trans q2
      have d3 := (hb.cell (p := ⟨b, o + j * 8 + 3, none⟩) hbl).trans q3
      have d4 := (hb.cell (p := ⟨b, o + j * 8 + 4, none⟩) hbl).trans q4
      have d5 := (hb.cell (p := ⟨b, o + j * 8 + 5, none⟩) hbl).trans q5
      have d6 := (hb.cell (p := ⟨b, o + j * 8 + 6, none⟩) hbl).trans q6
      have d7 := (hb.cell (p := ⟨b, o + j * 8 + 7, none⟩) hbl).trans q7
      have HT := hid ht
      have hbg := Fr.bulk_get ts j _ ht
      have hfc := hrk.fFr
      have HFC := hid hfc
      have hc := toFr k1 v1 ds1 ctk1 ctv1 ctds1 ctks1 ces1 ads1 cds1 actds1 cctds1 actks1 cctks1 aces1 cces1 wr (by omega) (hrk.below hb)
      have HC := hid hc
      have HU := hid hcur
      clear ht hrk q0 q1 q2 q3 q4 q5 q6 q7 hc hcur hfc
      go_wp2_with fail
      refine HC.out.mono ?_
      clear HC
      rintro e w1 ⟨ads2, cds2, actds2, cctds2, actks2, cctks2, aces2, cces2, rfl, hown, hb1⟩
      have hB : w.heap.size < wr.heap.size := (Array.getElem?_eq_some_iff.1 HU.out).1
      have hcur1 : w1.heap[w.heap.size]? = some (.cells cur 102 (0, 0)) := (hb1.block _ hB).trans HU.out
      have hsz : j * 8 + 7 < cur.size := by have := HS.out; omega
      have e0 : w1.cell? ⟨w.heap.size, j * 8, none⟩ = some (cur[j * 8]'(by omega)) := by simp [World.cell?, hcur1]
      have f0 : w1.frozen? ⟨w.heap.size, j * 8, none⟩ = false := by simp [World.frozen?, hcur1]
      have e1 : w1.cell? ⟨w.heap.size, j * 8 + 1, none⟩ = some (cur[j * 8 + 1]'(by omega)) := by simp [World.cell?, hcur1]
      have f1 : w1.frozen? ⟨w.heap.size, j * 8 + 1, none⟩ = false := by simp [World.frozen?, hcur1]
      have e2 : w1.cell? ⟨w.heap.size, j * 8 + 2, none⟩ = some (cur[j * 8 + 2]'(by omega)) := by simp [World.cell?, hcur1]
      have f2 : w1.frozen? ⟨w.heap.size, j * 8 + 2, none⟩ = false := by simp [World.frozen?, hcur1]
      have e3 : w1.cell? ⟨w.heap.size, j * 8 + 3, none⟩ = some (cur[j * 8 + 3]'(by omega)) := by simp [World.cell?, hcur1]
      have f3 : w1.frozen? ⟨w.heap.size, j * 8 + 3, none⟩ = false := by simp [World.frozen?, hcur1]
      have e4 : w1.cell? ⟨w.heap.size, j * 8 + 4, none⟩ = some (cur[j * 8 + 4]'(by omega)) := by simp [World.cell?, hcur1]
      have f4 : w1.frozen? ⟨w.heap.size, j * 8 + 4, none⟩ = false := by simp [World.frozen?, hcur1]
      have e5 : w1.cell? ⟨w.heap.size, j * 8 + 5, none⟩ = some (cur[j * 8 + 5]'(by omega)) := by simp [World.cell?, hcur1]
      have f5 : w1.frozen? ⟨w.heap.size, j * 8 + 5, none⟩ = false := by simp [World.frozen?, hcur1]
      have e6 : w1.cell? ⟨w.heap.size, j * 8 + 6, none⟩ = some (cur[j * 8 + 6]'(by omega)) := by simp [World.cell?, hcur1]
      have f6 : w1.frozen? ⟨w.heap.size, j * 8 + 6, none⟩ = false := by simp [World.frozen?, hcur1]
      have e7 : w1.cell? ⟨w.heap.size, j * 8 + 7, none⟩ = some (cur[j * 8 + 7]'(by omega)) := by simp [World.cell?, hcur1]
      have f7 : w1.frozen? ⟨w.heap.size, j * 8 + 7, none⟩ = false := by simp [World.frozen?, hcur1]
      have HCU := hid hcur1
      have HW := hid hown
      clear hcur1 hown
      go_wp2_with fail
      obtain ⟨F3, hr3, ho3⟩ := HW.out
      have hlo3 : ∀ y ∈ F3, wr.heap.size ≤ y := fun y hy => (ho3.2 y hy).1
      have hlo : ∀ x ∈ F, x < wr.heap.size := HO.lt
      obtain ⟨cur', H, g1, g2, g3, g4, g5⟩ := fill_step (m := 8) (base := w.heap.size + 1) HCU.out rfl (by have := HS.out; omega) (HR.out.below hb1) hr3 (HO.keep fun b hb => hb1.block b (hlo b hb)) (ho3.mono (by omega))
        (fun x hx => by have := (HO.2 x hx).1; omega) (fun x hx => by have := hlo3 x hx; omega) (fun x hx y hy => by have := hlo x hx; have := hlo3 y hy; omega)
      have hbw : Below w.heap.size w (setMany w1 w.heap.size (j * 8) [.int .i64 k1, .int .i64 v1, .slice ads2 ds1.length cds2, .int .i64 ctk1, .int .i64 ctv1, .slice actds2 ctds1.length cctds2, .slice actks2 ctks1.length cctks2, .slice aces2 ces1.length cces2]) := Below.setMany _ _ (hb.trans (hb1.mono hb.size)) (Nat.le_refl _)
      have htk : Fr.ds (ts.take (j + 1)) = Fr.ds (ts.take j) ++ [Fr.d (Fr.mk k1 v1 ds1 (Cl.mk (Co.mk ctk1 ctv1 ctds1 ctks1) ces1))] := Fr.ds_snoc ts j _ HT.out
      go_roundw
      case rel => exact ⟨j + 1, by omega, by go_num, cur', H, g1, by show _ = _; rw [g2]; exact HS.out, by show RdAll _ _ _ _; rw [htk]; exact g3, g4, hbw⟩
      case measure => simp [intOf]; omega
    · obtain rfl : j = ts.length := by omega
      rw [List.take_length] at HR
      go_wp2_with fail
      go_ret
      obtain ⟨G, q1, q2⟩ := fill_done (m := 8) (base := w.heap.size) hcur HS.out (Fr.ds_length ts) (by omega) HR.out (HO.mono (by omega)) (Nat.le_refl _) (fun x hx => by have := (HO.2 x hx).1; omega)
      exact ⟨_, _, rfl, ⟨G, q1, q2⟩, hb⟩

end Go.Proofs.Ytlbebnmhldolnaa

namespace Go.Proofs.Ytlbebnmhldolnaa
open Go.ChangeShapes Go.WideShapes Go.ChangeAt Go.RowKit
open Go.Sort (grow)
set_option linter.unusedVariables false

/-- Handed back: the call's own copy. -/
def GivesTh (dn : Bool) (ctk : Int) (ctv : Int) (ctds : List Int) (ctks : List Co) (ces : List Int) (w : World) (e : Ending) (w' : World) : Prop :=
  ∃ (actds : Option Addr) (cctds : Nat) (actks : Option Addr) (cctks : Nat) (aces : Option Addr) (cces : Nat), e = .returned (.agg #[.bool dn, .int .i64 ctk, .int .i64 ctv, .slice actds ctds.length cctds, .slice actks ctks.length cctks, .slice aces ces.length cces]) ∧ OwnS w' w.heap.size (Th.d (Th.mk dn (Cl.mk (Co.mk ctk ctv ctds ctks) ces))) [.bool dn, .int .i64 ctk, .int .i64 ctv, .slice actds ctds.length cctds, .slice actks ctks.length cctks, .slice aces ces.length cces] ∧ Below w.heap.size w w'
def GivesThs (ts : List Th) (w : World) (e : Ending) (w' : World) : Prop :=
  ∃ (a : Option Addr) (c : Nat), e = .returned (.slice a ts.length c) ∧ OwnL w' w.heap.size (Th.ds ts) (.slice a ts.length c) ∧ Below w.heap.size w w'
abbrev ToTh : Prop := ∀ (dn : Bool) (ctk : Int) (ctv : Int) (ctds : List Int) (ctks : List Co) (ces : List Int) (actds : Option Addr) (cctds : Nat) (actks : Option Addr) (cctks : Nat) (aces : Option Addr) (cces : Nat) (w : World), Th.bulk (Th.mk dn (Cl.mk (Co.mk ctk ctv ctds ctks) ces)) ≤ 1048576 → RdS w (Th.d (Th.mk dn (Cl.mk (Co.mk ctk ctv ctds ctks) ces))) [.bool dn, .int .i64 ctk, .int .i64 ctv, .slice actds ctds.length cctds, .slice actks ctks.length cctks, .slice aces ces.length cces] →
  Calls Try.prog 90 #[.agg #[.bool dn, .int .i64 ctk, .int .i64 ctv, .slice actds ctds.length cctds, .slice actks ctks.length cctks, .slice aces ces.length cces]] w (GivesTh dn ctk ctv ctds ctks ces w)
theorem toTh : ToTh := by
  intro dn ctk ctv ctds ctks ces actds cctds actks cctks aces cces w hM hr
  have hbk : Th.bulk (Th.mk dn (Cl.mk (Co.mk ctk ctv ctds ctks) ces)) = Cl.bulk (Cl.mk (Co.mk ctk ctv ctds ctks) ces) := rfl
  obtain ⟨⟨⟨loctk, hictk⟩, ⟨loctv, hictv⟩, hctds, hctks⟩, hces⟩ := hr.fTh
  have hc1 := fun (W : World) (hb : Below w.heap.size w W) => toCl ctk ctv ctds ctks ces actds cctds actks cctks aces cces W (by omega) ((RdS.subTh_c hr).below hb)
  have HC1 := hid hc1
  have hB0 : Below w.heap.size w (w.alloc (.cells #[.bool dn, .int .i64 ctk, .int .i64 ctv, .slice actds ctds.length cctds, .slice actks ctks.length cctks, .slice aces ces.length cces] 118)) := (Below.refl _ _).alloc (Nat.le_refl _) _
  clear hr hbk hM hc1 hB0 hctds hctks hces
  go_enter Try.func90, Try.ntmps90
  go_wp2_with fail
  refine (HC1.out _ ((((Below.refl _ _).alloc (Nat.le_refl _) _).alloc (by simp) _).alloc (by simp; omega) _)).mono ?_
  rintro e w1 ⟨actds_1, cctds_1, actks_1, cctks_1, aces_1, cces_1, rfl, ho1, hb1⟩
  obtain ⟨hcl1, hfz1⟩ := bcell hb1
  have hz1 : w.heap.size + 1 + 1 < w1.heap.size := by have := hb1.size; simp at this; omega
  have hbw1 : Below w.heap.size w w1 := ((((Below.refl _ _).alloc (Nat.le_refl _) _).alloc (by simp) _).alloc (by simp; omega) _).trans (hb1.mono (by simp; omega))
  have HO1 := hid (ho1.mono (base' := w.heap.size + 3) (by simp))
  have HT1 := hid (Nat.le_refl w1.heap.size)
  clear HC1 ho1
  go_wp2_with fail
  refine bodyPost_ret (v := .agg #[.bool dn, .int .i64 ctk, .int .i64 ctv, .slice actds_1 ctds.length cctds_1, .slice actks_1 ctks.length cctks_1, .slice aces_1 ces.length cces_1]) (by simp [results, Try.results90, go_sem, hcl1]) rfl ⟨actds_1, cctds_1, actks_1, cctks_1, aces_1, cces_1, rfl, ?_, ?_⟩
  · have hfin := ((((((((((((Keeps.refl (w.heap.size + 3) w1).setCell (p := ⟨w.heap.size + 1 + 1, 1, none⟩) (by simp) (.int .i64 ctk)).setCell (p := ⟨w.heap.size + 1 + 1, 2, none⟩) (by simp) (.int .i64 ctv)).setCell (p := ⟨w.heap.size + 1 + 1, 3, none⟩) (by simp) (.slice actds_1 ctds.length cctds_1)).setCell (p := ⟨w.heap.size + 1 + 1, 4, none⟩) (by simp) (.slice actks_1 ctks.length cctks_1)).setCell (p := ⟨w.heap.size + 1 + 1, 5, none⟩) (by simp) (.slice aces_1 ces.length cces_1)).setCell (p := ⟨w.heap.size + 1, 0, none⟩) (by simp) (.bool dn)).setCell (p := ⟨w.heap.size + 1, 1, none⟩) (by simp) (.int .i64 ctk)).setCell (p := ⟨w.heap.size + 1, 2, none⟩) (by simp) (.int .i64 ctv)).setCell (p := ⟨w.heap.size + 1, 3, none⟩) (by simp) (.slice actds_1 ctds.length cctds_1)).setCell (p := ⟨w.heap.size + 1, 4, none⟩) (by simp) (.slice actks_1 ctks.length cctks_1)).setCell (p := ⟨w.heap.size + 1, 5, none⟩) (by simp) (.slice aces_1 ces.length cces_1))
    have hp := ((PartAll.cons (HO1.out.part.keeps hfin (by first | exact Nat.le_refl _ | omega) (Nat.le_refl _)) (PartAll.nil _ w1.heap.size w1.heap.size) (Nat.le_refl _) (by omega) (by omega)).plain (Rd.bool_mk (b := dn)))
    exact OwnS.mono (base := w.heap.size + 3) hp.own (by omega)
  · exact (((((((((((hbw1.setCell (by simp; try omega) _).setCell (by simp; try omega) _).setCell (by simp; try omega) _).setCell (by simp; try omega) _).setCell (by simp; try omega) _).setCell (by simp; try omega) _).setCell (by simp; try omega) _).setCell (by simp; try omega) _).setCell (by simp; try omega) _).setCell (by simp; try omega) _).setCell (by simp; try omega) _)

theorem infoTh : (Try.prog.info? 98).map (fun i => (i.zero, i.size, i.bytes)) = some (some (.agg #[.bool false, .int .i64 0, .int .i64 0, .slice none 0 0, .slice none 0 0, .slice none 0 0]), 6, 96) := by kernel_rfl
theorem makeTh (n : Nat) (hn : n ≤ 1048576) : ∃ C : Array Value, C.size = n * 6 ∧ ∀ w : World, (Instr.makeSlice 39 (.int .i64 (n : Int)) (.int .i64 (n : Int))).run Try.prog w = .ok (.slice (some ⟨w.heap.size, 0, none⟩) n n) (w.alloc (.cells C 98)) := by
  obtain ⟨i, hi, hz, hs, hb⟩ := info_parts infoTh
  refine ⟨madeCells (Value.cells (.agg #[.bool false, .int .i64 0, .int .i64 0, .slice none 0 0, .slice none 0 0, .slice none 0 0])) (n * 6), size_madeCells _ _, fun w => ?_⟩
  have := run_make (P := Try.prog) w 39 98 i _ Try.underlying39 hi hz .i64 .i64 n n (by omega) (Int.le_refl _) (by rw [hb]; omega) (by omega)
  simp only [Int.toNat_natCast, hs] at this
  exact this
theorem toThs (ts : List Th) (a : Option Addr) (c : Nat) (w : World) (hM : Th.bulks ts ≤ 1048576) (hr : RdL w (Th.ds ts) (.slice a ts.length c)) :
    Calls Try.prog 58 #[.slice a ts.length c] w (GivesThs ts w) := by
  obtain ⟨_, _, e, h2, h3, h4⟩ := hr.eTh
  simp only [Value.slice.injEq, true_and] at e
  obtain ⟨rfl, rfl⟩ := e
  have hl := Th.bulks_length ts
  obtain ⟨C, hC, hmk⟩ := makeTh ts.length (by omega)
  have HC := hid hC
  have H4 := hid h4
  clear hr h4 hC
  go_enter Try.func58, Try.ntmps58
  go_wp2_with fail
  clear hmk
  go_loopw [4] (fun i wr => ∃ (j : Nat), j ≤ ts.length ∧ i = .int .i64 j ∧ ∃ (cur : Array Value) (F : List Nat), wr.heap[w.heap.size]? = some (.cells cur 98 (0, 0)) ∧ Hid (cur.size = ts.length * 6) ∧ Hid (RdAll wr (Th.ds (ts.take j)) (cur.toList.take (j * 6)) F) ∧ Owned wr (w.heap.size + 1) F ∧ Below w.heap.size w wr) (fun i _ => ts.length - (intOf i).toNat)
  case atStart => exact ⟨0, by omega, rfl, C, [], heap_alloc_new _ _, HC.out, by show RdAll _ _ _ _; simpa [Th.ds] using RdAll.nil, Owned.nil _ _, (Below.refl _ _).alloc (Nat.le_refl _) _⟩
  case round =>
    obtain ⟨j, hj, rfl, cur, F, hcur, HS, HR, HO, hb⟩ := hrel
    by_cases hlt : j < ts.length
    · obtain ⟨b, o, rfl, hbl, hall⟩ := H4.out (by omega)
      obtain ⟨t, ht⟩ : ∃ t, ts[j]? = some t := ⟨_, List.getElem?_eq_getElem hlt⟩
      obtain ⟨dn1, ⟨⟨ctk1, ctv1, ctds1, ctks1⟩, ces1⟩⟩ := t
      obtain ⟨actds1, cctds1, actks1, cctks1, aces1, cces1, q0, q1, q2, q3, q4, q5, hrk⟩ := hall j dn1 ctk1 ctv1 ctds1 ctks1 ces1 ht
      clear hall H4
      have d0 := (hb.cell (p := ⟨b, o + j * 6, none⟩) hbl).trans q0
      have d1 := (hb.cell (p := ⟨b, o + j * 6 + 1, none⟩) hbl).trans q1
      have d2 := (hb.cell (p := ⟨b, o + j * 6 + 2, none⟩) hbl).trans q2
      have d3 := (hb.cell (p := ⟨b, o + j * 6 + 3, none⟩) hbl).trans q3
      have d4 := (hb.cell (p := ⟨b, o + j * 6 + 4, none⟩) hbl).trans q4
      have d5 := (hb.cell (p := ⟨b, o + j * 6 + 5, none⟩) hbl).trans q5
      have HT := hid ht
      have hbg := Th.bulk_get ts j _ ht
      have hfc := hrk.fTh
      have HFC := hid hfc
      have hc := toTh dn1 ctk1 ctv1 ctds1 ctks1 ces1 actds1 cctds1 actks1 cctks1 aces1 cces1 wr (by omega) (hrk.below hb)
      have HC := hid hc
      have HU := hid hcur
      clear ht hrk q0 q1 q2 q3 q4 q5 hc hcur hfc
      go_wp2_with fail
      refine HC.out.mono ?_
      clear HC
      rintro e w1 ⟨actds2, cctds2, actks2, cctks2, aces2, cces2, rfl, hown, hb1⟩
      have hB : w.heap.size < wr.heap.size := (Array.getElem?_eq_some_iff.1 HU.out).1
      have hcur1 : w1.heap[w.heap.size]? = some (.cells cur 98 (0, 0)) := (hb1.block _ hB).trans HU.out
      have hsz : j * 6 + 5 < cur.size := by have := HS.out; omega
      have e0 : w1.cell? ⟨w.heap.size, j * 6, none⟩ = some (cur[j * 6]'(by omega)) := by simp [World.cell?, hcur1]
      have f0 : w1.frozen? ⟨w.heap.size, j * 6, none⟩ = false := by simp [World.frozen?, hcur1]
      have e1 : w1.cell? ⟨w.heap.size, j * 6 + 1, none⟩ = some (cur[j * 6 + 1]'(by omega)) := by simp [World.cell?, hcur1]
      have f1 : w1.frozen? ⟨w.heap.size, j * 6 + 1, none⟩ = false := by simp [World.frozen?, hcur1]
      have e2 : w1.cell? ⟨w.heap.size, j * 6 + 2, none⟩ = some (cur[j * 6 + 2]'(by omega)) := by simp [World.cell?, hcur1]
      have f2 : w1.frozen? ⟨w.heap.size, j * 6 + 2, none⟩ = false := by simp [World.frozen?, hcur1]
      have e3 : w1.cell? ⟨w.heap.size, j * 6 + 3, none⟩ = some (cur[j * 6 + 3]'(by omega)) := by simp [World.cell?, hcur1]
      have f3 : w1.frozen? ⟨w.heap.size, j * 6 + 3, none⟩ = false := by simp [World.frozen?, hcur1]
      have e4 : w1.cell? ⟨w.heap.size, j * 6 + 4, none⟩ = some (cur[j * 6 + 4]'(by omega)) := by simp [World.cell?, hcur1]
      have f4 : w1.frozen? ⟨w.heap.size, j * 6 + 4, none⟩ = false := by simp [World.frozen?, hcur1]
      have e5 : w1.cell? ⟨w.heap.size, j * 6 + 5, none⟩ = some (cur[j * 6 + 5]'(by omega)) := by simp [World.cell?, hcur1]
      have f5 : w1.frozen? ⟨w.heap.size, j * 6 + 5, none⟩ = false := by simp [World.frozen?, hcur1]
      have HCU := hid hcur1
      have HW := hid hown
      clear hcur1 hown
      go_wp2_with fail
      obtain ⟨F3, hr3, ho3⟩ := HW.out
      have hlo3 : ∀ y ∈ F3, wr.heap.size ≤ y := fun y hy => (ho3.2 y hy).1
      have hlo : ∀ x ∈ F, x < wr.heap.size := HO.lt
      obtain ⟨cur', H, g1, g2, g3, g4, g5⟩ := fill_step (m := 6) (base := w.heap.size + 1) HCU.out rfl (by have := HS.out; omega) (HR.out.below hb1) hr3 (HO.keep fun b hb => hb1.block b (hlo b hb)) (ho3.mono (by omega))
        (fun x hx => by have := (HO.2 x hx).1; omega) (fun x hx => by have := hlo3 x hx; omega) (fun x hx y hy => by have := hlo x hx; have := hlo3 y hy; omega)
      have hbw : Below w.heap.size w (setMany w1 w.heap.size (j * 6) [.bool dn1, .int .i64 ctk1, .int .i64 ctv1, .slice actds2 ctds1.length cctds2, .slice actks2 ctks1.length cctks2, .slice aces2 ces1.length cces2]) := Below.setMany _ _ (hb.trans (hb1.mono hb.size)) (Nat.le_refl _)
      have htk : Th.ds (ts.take (j + 1)) = Th.ds (ts.take j) ++ [Th.d (Th.mk dn1 (Cl.mk (Co.mk ctk1 ctv1 ctds1 ctks1) ces1))] := Th.ds_snoc ts j _ HT.out
      go_roundw
      case rel => exact ⟨j + 1, by omega, by go_num, cur', H, g1, by show _ = _; rw [g2]; exact HS.out, by show RdAll _ _ _ _; rw [htk]; exact g3, g4, hbw⟩
      case measure => simp [intOf]; omega
    · obtain rfl : j = ts.length := by omega
      rw [List.take_length] at HR
      go_wp2_with fail
      go_ret
      obtain ⟨G, q1, q2⟩ := fill_done (m := 6) (base := w.heap.size) hcur HS.out (Th.ds_length ts) (by omega) HR.out (HO.mono (by omega)) (Nat.le_refl _) (fun x hx => by have := (HO.2 x hx).1; omega)
      exact ⟨_, _, rfl, ⟨G, q1, q2⟩, hb⟩

end Go.Proofs.Ytlbebnmhldolnaa

namespace Go.Proofs.Ytlbebnmhldolnaa
open Go.ChangeShapes Go.WideShapes Go.ChangeAt Go.RowKit
open Go.Sort (grow)
set_option linter.unusedVariables false

/-- Handed back: the call's own copy. -/
def GivesNe (ctk : Int) (ctv : Int) (ctds : List Int) (ctks : List Co) (ces : List Int) (ss : List Fr) (hs : List Th) (w : World) (e : Ending) (w' : World) : Prop :=
  ∃ (actds : Option Addr) (cctds : Nat) (actks : Option Addr) (cctks : Nat) (aces : Option Addr) (cces : Nat) (ass : Option Addr) (css : Nat) (ahs : Option Addr) (chs : Nat), e = .returned (.agg #[.int .i64 ctk, .int .i64 ctv, .slice actds ctds.length cctds, .slice actks ctks.length cctks, .slice aces ces.length cces, .slice ass ss.length css, .slice ahs hs.length chs]) ∧ OwnS w' w.heap.size (Ne.d (Ne.mk (Cl.mk (Co.mk ctk ctv ctds ctks) ces) ss hs)) [.int .i64 ctk, .int .i64 ctv, .slice actds ctds.length cctds, .slice actks ctks.length cctks, .slice aces ces.length cces, .slice ass ss.length css, .slice ahs hs.length chs] ∧ Below w.heap.size w w'
def GivesNes (ts : List Ne) (w : World) (e : Ending) (w' : World) : Prop :=
  ∃ (a : Option Addr) (c : Nat), e = .returned (.slice a ts.length c) ∧ OwnL w' w.heap.size (Ne.ds ts) (.slice a ts.length c) ∧ Below w.heap.size w w'
abbrev ToNe : Prop := ∀ (ctk : Int) (ctv : Int) (ctds : List Int) (ctks : List Co) (ces : List Int) (ss : List Fr) (hs : List Th) (actds : Option Addr) (cctds : Nat) (actks : Option Addr) (cctks : Nat) (aces : Option Addr) (cces : Nat) (ass : Option Addr) (css : Nat) (ahs : Option Addr) (chs : Nat) (w : World), Ne.bulk (Ne.mk (Cl.mk (Co.mk ctk ctv ctds ctks) ces) ss hs) ≤ 1048576 → RdS w (Ne.d (Ne.mk (Cl.mk (Co.mk ctk ctv ctds ctks) ces) ss hs)) [.int .i64 ctk, .int .i64 ctv, .slice actds ctds.length cctds, .slice actks ctks.length cctks, .slice aces ces.length cces, .slice ass ss.length css, .slice ahs hs.length chs] →
  Calls Try.prog 24 #[.agg #[.int .i64 ctk, .int .i64 ctv, .slice actds ctds.length cctds, .slice actks ctks.length cctks, .slice aces ces.length cces, .slice ass ss.length css, .slice ahs hs.length chs]] w (GivesNe ctk ctv ctds ctks ces ss hs w)
theorem toNe : ToNe := by
  intro ctk ctv ctds ctks ces ss hs actds cctds actks cctks aces cces ass css ahs chs w hM hr
  have hbk : Ne.bulk (Ne.mk (Cl.mk (Co.mk ctk ctv ctds ctks) ces) ss hs) = Cl.bulk (Cl.mk (Co.mk ctk ctv ctds ctks) ces) + Fr.bulks ss + Th.bulks hs := rfl
  obtain ⟨⟨⟨⟨loctk, hictk⟩, ⟨loctv, hictv⟩, hctds, hctks⟩, hces⟩, hss, hhs⟩ := hr.fNe
  have hc1 := fun (W : World) (hb : Below w.heap.size w W) => toCl ctk ctv ctds ctks ces actds cctds actks cctks aces cces W (by omega) ((RdS.subNe_c hr).below hb)
  have hc2 := fun (W : World) (hb : Below w.heap.size w W) => toFrs ss ass css W (by omega) (hss.below hb)
  have hc3 := fun (W : World) (hb : Below w.heap.size w W) => toThs hs ahs chs W (by omega) (hhs.below hb)
  have HC1 := hid hc1
  have HC2 := hid hc2
  have HC3 := hid hc3
  have hB0 : Below w.heap.size w (w.alloc (.cells #[.int .i64 ctk, .int .i64 ctv, .slice actds ctds.length cctds, .slice actks ctks.length cctks, .slice aces ces.length cces, .slice ass ss.length css, .slice ahs hs.length chs] 60)) := (Below.refl _ _).alloc (Nat.le_refl _) _
  clear hr hbk hM hc1 hc2 hc3 hB0 hctds hctks hces hss hhs
  go_enter Try.func24, Try.ntmps24
  go_wp2_with fail
  refine (HC1.out _ ((((Below.refl _ _).alloc (Nat.le_refl _) _).alloc (by simp) _).alloc (by simp; omega) _)).mono ?_
  rintro e w1 ⟨actds_1, cctds_1, actks_1, cctks_1, aces_1, cces_1, rfl, ho1, hb1⟩
  obtain ⟨hcl1, hfz1⟩ := bcell hb1
  have hz1 : w.heap.size + 1 + 1 < w1.heap.size := by have := hb1.size; simp at this; omega
  have hy1 : w.heap.size + 1 < w1.heap.size := by omega
  have hx1 : w.heap.size < w1.heap.size := by omega
  have hbw1 : Below w.heap.size w w1 := ((((Below.refl _ _).alloc (Nat.le_refl _) _).alloc (by simp) _).alloc (by simp; omega) _).trans (hb1.mono (by simp; omega))
  have HO1 := hid (ho1.mono (base' := w.heap.size + 3) (by simp))
  have HT1 := hid (Nat.le_refl w1.heap.size)
  clear HC1 ho1
  have hbs1 := (((((hbw1.setCell (p := ⟨w.heap.size + 1 + 1, 0, none⟩) (by simp; omega) (.int .i64 ctk)).setCell (p := ⟨w.heap.size + 1 + 1, 1, none⟩) (by simp; omega) (.int .i64 ctv)).setCell (p := ⟨w.heap.size + 1 + 1, 2, none⟩) (by simp; omega) (.slice actds_1 ctds.length cctds_1)).setCell (p := ⟨w.heap.size + 1 + 1, 3, none⟩) (by simp; omega) (.slice actks_1 ctks.length cctks_1)).setCell (p := ⟨w.heap.size + 1 + 1, 4, none⟩) (by simp; omega) (.slice aces_1 ces.length cces_1))
  have HKS1 := hid ((((((Keeps.refl (w.heap.size + 3) w1).setCell (p := ⟨w.heap.size + 1 + 1, 0, none⟩) (by simp) (.int .i64 ctk)).setCell (p := ⟨w.heap.size + 1 + 1, 1, none⟩) (by simp) (.int .i64 ctv)).setCell (p := ⟨w.heap.size + 1 + 1, 2, none⟩) (by simp) (.slice actds_1 ctds.length cctds_1)).setCell (p := ⟨w.heap.size + 1 + 1, 3, none⟩) (by simp) (.slice actks_1 ctks.length cctks_1)).setCell (p := ⟨w.heap.size + 1 + 1, 4, none⟩) (by simp) (.slice aces_1 ces.length cces_1))
  go_wp2_with fail
  refine (HC2.out _ hbs1).mono ?_
  rintro e w2 ⟨ass_2, css_2, rfl, ho2, hb2⟩
  obtain ⟨hcl2, hfz2⟩ := bcell hb2
  have hz2 : w.heap.size + 1 + 1 < w2.heap.size := by have := hb2.size; simp at this; omega
  have hy2 : w.heap.size + 1 < w2.heap.size := by omega
  have hx2 : w.heap.size < w2.heap.size := by omega
  have hbw2 : Below w.heap.size w w2 := hbs1.trans (hb2.mono hbs1.size)
  have hsz2 : w1.heap.size ≤ w2.heap.size := by have := hb2.size; simpa using this
  have HK2 := hid (HKS1.out.below hb2)
  have HO2 := hid (ho2.mono (base' := w1.heap.size) (by simp))
  clear HC2 ho2 HKS1
  have hbs2 := (hbw2.setCell (p := ⟨w.heap.size + 1 + 1, 5, none⟩) (by simp; omega) (.slice ass_2 ss.length css_2))
  have HKS2 := hid (HK2.out.setCell (p := ⟨w.heap.size + 1 + 1, 5, none⟩) (by simp) (.slice ass_2 ss.length css_2))
  go_wp2_with fail
  refine (HC3.out _ hbs2).mono ?_
  rintro e w3 ⟨ahs_3, chs_3, rfl, ho3, hb3⟩
  obtain ⟨hcl3, hfz3⟩ := bcell hb3
  have hz3 : w.heap.size + 1 + 1 < w3.heap.size := by have := hb3.size; simp at this; omega
  have hbw3 : Below w.heap.size w w3 := hbs2.trans (hb3.mono hbs2.size)
  have hsz3 : w2.heap.size ≤ w3.heap.size := by have := hb3.size; simpa using this
  have HK3 := hid (HKS2.out.below hb3)
  have HO3 := hid (ho3.mono (base' := w2.heap.size) (by simp))
  clear HC3 ho3 HKS2
  go_wp2_with fail
  refine bodyPost_ret (v := .agg #[.int .i64 ctk, .int .i64 ctv, .slice actds_1 ctds.length cctds_1, .slice actks_1 ctks.length cctks_1, .slice aces_1 ces.length cces_1, .slice ass_2 ss.length css_2, .slice ahs_3 hs.length chs_3]) (by simp [results, Try.results24, go_sem, hcl1, hcl2, hcl3, hy1, hy2]) rfl ⟨actds_1, cctds_1, actks_1, cctks_1, aces_1, cces_1, ass_2, css_2, ahs_3, chs_3, rfl, ?_, ?_⟩
  · have hfin := ((((((((HK3.out.setCell (p := ⟨w.heap.size + 1 + 1, 6, none⟩) (by simp) (.slice ahs_3 hs.length chs_3)).setCell (p := ⟨w.heap.size + 1, 0, none⟩) (by simp) (.int .i64 ctk)).setCell (p := ⟨w.heap.size + 1, 1, none⟩) (by simp) (.int .i64 ctv)).setCell (p := ⟨w.heap.size + 1, 2, none⟩) (by simp) (.slice actds_1 ctds.length cctds_1)).setCell (p := ⟨w.heap.size + 1, 3, none⟩) (by simp) (.slice actks_1 ctks.length cctks_1)).setCell (p := ⟨w.heap.size + 1, 4, none⟩) (by simp) (.slice aces_1 ces.length cces_1)).setCell (p := ⟨w.heap.size + 1, 5, none⟩) (by simp) (.slice ass_2 ss.length css_2)).setCell (p := ⟨w.heap.size + 1, 6, none⟩) (by simp) (.slice ahs_3 hs.length chs_3))
    have hfin2 := (((((((((((Keeps.refl (w.heap.size + 3) w2).setCell (p := ⟨w.heap.size + 1 + 1, 5, none⟩) (by simp) (.slice ass_2 ss.length css_2)).below hb3).setCell (p := ⟨w.heap.size + 1 + 1, 6, none⟩) (by simp) (.slice ahs_3 hs.length chs_3)).setCell (p := ⟨w.heap.size + 1, 0, none⟩) (by simp) (.int .i64 ctk)).setCell (p := ⟨w.heap.size + 1, 1, none⟩) (by simp) (.int .i64 ctv)).setCell (p := ⟨w.heap.size + 1, 2, none⟩) (by simp) (.slice actds_1 ctds.length cctds_1)).setCell (p := ⟨w.heap.size + 1, 3, none⟩) (by simp) (.slice actks_1 ctks.length cctks_1)).setCell (p := ⟨w.heap.size + 1, 4, none⟩) (by simp) (.slice aces_1 ces.length cces_1)).setCell (p := ⟨w.heap.size + 1, 5, none⟩) (by simp) (.slice ass_2 ss.length css_2)).setCell (p := ⟨w.heap.size + 1, 6, none⟩) (by simp) (.slice ahs_3 hs.length chs_3))
    have hfin3 := (((((((((Keeps.refl (w.heap.size + 3) w3).setCell (p := ⟨w.heap.size + 1 + 1, 6, none⟩) (by simp) (.slice ahs_3 hs.length chs_3)).setCell (p := ⟨w.heap.size + 1, 0, none⟩) (by simp) (.int .i64 ctk)).setCell (p := ⟨w.heap.size + 1, 1, none⟩) (by simp) (.int .i64 ctv)).setCell (p := ⟨w.heap.size + 1, 2, none⟩) (by simp) (.slice actds_1 ctds.length cctds_1)).setCell (p := ⟨w.heap.size + 1, 3, none⟩) (by simp) (.slice actks_1 ctks.length cctks_1)).setCell (p := ⟨w.heap.size + 1, 4, none⟩) (by simp) (.slice aces_1 ces.length cces_1)).setCell (p := ⟨w.heap.size + 1, 5, none⟩) (by simp) (.slice ass_2 ss.length css_2)).setCell (p := ⟨w.heap.size + 1, 6, none⟩) (by simp) (.slice ahs_3 hs.length chs_3))
    have hp := (PartAll.cons (HO1.out.part.keeps hfin (by first | exact Nat.le_refl _ | omega) (Nat.le_refl _)) (PartAll.cons (HO2.out.part.keeps hfin2 (by first | exact Nat.le_refl _ | omega) (Nat.le_refl _)) (PartAll.cons (HO3.out.part.keeps hfin3 (by first | exact Nat.le_refl _ | omega) (Nat.le_refl _)) (PartAll.nil _ w3.heap.size w3.heap.size) (Nat.le_refl _) (by omega) (by omega)) (Nat.le_refl _) (by omega) (by omega)) (Nat.le_refl _) (by omega) (by omega))
    exact OwnS.mono (base := w.heap.size + 3) hp.own (by omega)
  · exact ((((((((hbw3.setCell (by simp; try omega) _).setCell (by simp; try omega) _).setCell (by simp; try omega) _).setCell (by simp; try omega) _).setCell (by simp; try omega) _).setCell (by simp; try omega) _).setCell (by simp; try omega) _).setCell (by simp; try omega) _)

theorem infoNe : (Try.prog.info? 41).map (fun i => (i.zero, i.size, i.bytes)) = some (some (.agg #[.int .i64 0, .int .i64 0, .slice none 0 0, .slice none 0 0, .slice none 0 0, .slice none 0 0, .slice none 0 0]), 7, 136) := by kernel_rfl
end Go.Proofs.Ytlbebnmhldolnaa

namespace Go.Proofs.Ytlbebnmhldolnaa
open Go.ChangeShapes Go.WideShapes Go.ChangeAt Go.RowKit
open Go.Sort (grow)
set_option linter.unusedVariables false

abbrev EqCl : Prop := ∀ (tk : Int) (tv : Int) (tds : List Int) (tks : List Co) (es : List Int) (atds : Option Addr) (ctds : Nat) (atks : Option Addr) (ctks : Nat) (aes : Option Addr) (ces : Nat) (atds' : Option Addr) (ctds' : Nat) (atks' : Option Addr) (ctks' : Nat) (aes' : Option Addr) (ces' : Nat) (w : World), RdS w (Cl.d (Cl.mk (Co.mk tk tv tds tks) es)) [.int .i64 tk, .int .i64 tv, .slice atds tds.length ctds, .slice atks tks.length ctks, .slice aes es.length ces] → RdS w (Cl.d (Cl.mk (Co.mk tk tv tds tks) es)) [.int .i64 tk, .int .i64 tv, .slice atds' tds.length ctds', .slice atks' tks.length ctks', .slice aes' es.length ces'] →
  Calls Try.prog 39 #[.agg #[.int .i64 tk, .int .i64 tv, .slice atds tds.length ctds, .slice atks tks.length ctks, .slice aes es.length ces], .agg #[.int .i64 tk, .int .i64 tv, .slice atds' tds.length ctds', .slice atks' tks.length ctks', .slice aes' es.length ces']] w fun e w' => e = .returned (.bool true) ∧ Below w.heap.size w w'
theorem eqCl : EqCl := by
  intro tk tv tds tks es atds ctds atks ctks aes ces atds' ctds' atks' ctks' aes' ces' w hr hr'
  have hbk : Cl.bulk (Cl.mk (Co.mk tk tv tds tks) es) = Co.bulk (Co.mk tk tv tds tks) + In.bulks es := rfl
  obtain ⟨⟨⟨lotk, hitk⟩, ⟨lotv, hitv⟩, htds, htks⟩, hes⟩ := hr.fCl
  obtain ⟨⟨⟨lotk', hitk'⟩, ⟨lotv', hitv'⟩, htds', htks'⟩, hes'⟩ := hr'.fCl
  have hc1 := fun (W : World) (hb : Below w.heap.size w W) => eqCo tk tv tds tks atds ctds atks ctks atds' ctds' atks' ctks' W ((RdS.subCl_t hr).below hb) ((RdS.subCl_t hr').below hb)
  have hc2 := fun (W : World) (hb : Below w.heap.size w W) => eqIns es aes aes' ces ces' W (hes.below hb) (hes'.below hb)
  have HC1 := hid hc1
  have HC2 := hid hc2
  have HX0 := hid (((Boxes.nil w).alloc #[.int .i64 tk, .int .i64 tv, .slice atds tds.length ctds, .slice atks tks.length ctks, .slice aes es.length ces] 37 (0, 0)).alloc #[.int .i64 tk, .int .i64 tv, .slice atds' tds.length ctds', .slice atks' tks.length ctks', .slice aes' es.length ces'] 37 (0, 0))
  have HB0 := hid (((Below.refl w.heap.size w).alloc (Nat.le_refl _) (.cells #[.int .i64 tk, .int .i64 tv, .slice atds tds.length ctds, .slice atks tks.length ctks, .slice aes es.length ces] 37)).alloc (by simp) (.cells #[.int .i64 tk, .int .i64 tv, .slice atds' tds.length ctds', .slice atks' tks.length ctks', .slice aes' es.length ces'] 37))
  clear hr hr' hbk hc1 hc2 htds htds' htks htks' hes hes'
  go_enter Try.func39, Try.ntmps39
  go_wp2_with fail
  refine (HC1.out _ HB0.out).mono ?_
  rintro e w1 ⟨rfl, hb1⟩
  have hbw1 := HB0.out.trans (hb1.mono (by simp; omega))
  have hx1 := HX0.out.below hb1
  have g1_4 := hx1.at 1 4 rfl rfl
  have k1_4 := hx1.at 0 4 rfl rfl
  simp only [World.size_alloc] at k1_4
  have HX1 := hid hx1
  clear hx1 hb1 HC1
  go_wp2_with fail
  refine (HC2.out _ hbw1).mono ?_
  rintro e w2 ⟨rfl, hb2⟩
  have hbw2 := hbw1.trans (hb2.mono (by exact hbw1.size))
  have hx2 := HX1.out.below hb2
  have HX2 := hid hx2
  clear hx2 hb2 HC2
  go_wp2_with fail
  go_ret
  exact ⟨rfl, hbw2⟩

end Go.Proofs.Ytlbebnmhldolnaa

namespace Go.Proofs.Ytlbebnmhldolnaa
open Go.ChangeShapes Go.WideShapes Go.ChangeAt Go.RowKit
open Go.Sort (grow)
set_option linter.unusedVariables false

abbrev EqFr : Prop := ∀ (k : Int) (v : Int) (ds : List Int) (ctk : Int) (ctv : Int) (ctds : List Int) (ctks : List Co) (ces : List Int) (ads : Option Addr) (cds : Nat) (actds : Option Addr) (cctds : Nat) (actks : Option Addr) (cctks : Nat) (aces : Option Addr) (cces : Nat) (ads' : Option Addr) (cds' : Nat) (actds' : Option Addr) (cctds' : Nat) (actks' : Option Addr) (cctks' : Nat) (aces' : Option Addr) (cces' : Nat) (w : World), RdS w (Fr.d (Fr.mk k v ds (Cl.mk (Co.mk ctk ctv ctds ctks) ces))) [.int .i64 k, .int .i64 v, .slice ads ds.length cds, .int .i64 ctk, .int .i64 ctv, .slice actds ctds.length cctds, .slice actks ctks.length cctks, .slice aces ces.length cces] → RdS w (Fr.d (Fr.mk k v ds (Cl.mk (Co.mk ctk ctv ctds ctks) ces))) [.int .i64 k, .int .i64 v, .slice ads' ds.length cds', .int .i64 ctk, .int .i64 ctv, .slice actds' ctds.length cctds', .slice actks' ctks.length cctks', .slice aces' ces.length cces'] →
  Calls Try.prog 78 #[.agg #[.int .i64 k, .int .i64 v, .slice ads ds.length cds, .int .i64 ctk, .int .i64 ctv, .slice actds ctds.length cctds, .slice actks ctks.length cctks, .slice aces ces.length cces], .agg #[.int .i64 k, .int .i64 v, .slice ads' ds.length cds', .int .i64 ctk, .int .i64 ctv, .slice actds' ctds.length cctds', .slice actks' ctks.length cctks', .slice aces' ces.length cces']] w fun e w' => e = .returned (.bool true) ∧ Below w.heap.size w w'
theorem eqFr : EqFr := by
  intro k v ds ctk ctv ctds ctks ces ads cds actds cctds actks cctks aces cces ads' cds' actds' cctds' actks' cctks' aces' cces' w hr hr'
  have hbk : Fr.bulk (Fr.mk k v ds (Cl.mk (Co.mk ctk ctv ctds ctks) ces)) = In.bulks ds + Cl.bulk (Cl.mk (Co.mk ctk ctv ctds ctks) ces) := rfl
  obtain ⟨⟨lok, hik⟩, ⟨lov, hiv⟩, hds, ⟨⟨⟨loctk, hictk⟩, ⟨loctv, hictv⟩, hctds, hctks⟩, hces⟩⟩ := hr.fFr
  obtain ⟨⟨lok', hik'⟩, ⟨lov', hiv'⟩, hds', ⟨⟨⟨loctk', hictk'⟩, ⟨loctv', hictv'⟩, hctds', hctks'⟩, hces'⟩⟩ := hr'.fFr
  have hc1 := fun (W : World) (hb : Below w.heap.size w W) => eqIns ds ads ads' cds cds' W (hds.below hb) (hds'.below hb)
  have hc2 := fun (W : World) (hb : Below w.heap.size w W) => eqCl ctk ctv ctds ctks ces actds cctds actks cctks aces cces actds' cctds' actks' cctks' aces' cces' W ((RdS.subFr_c hr).below hb) ((RdS.subFr_c hr').below hb)
  have HC1 := hid hc1
  have HC2 := hid hc2
  have HX0 := hid (((Boxes.nil w).alloc #[.int .i64 k, .int .i64 v, .slice ads ds.length cds, .int .i64 ctk, .int .i64 ctv, .slice actds ctds.length cctds, .slice actks ctks.length cctks, .slice aces ces.length cces] 102 (0, 0)).alloc #[.int .i64 k, .int .i64 v, .slice ads' ds.length cds', .int .i64 ctk, .int .i64 ctv, .slice actds' ctds.length cctds', .slice actks' ctks.length cctks', .slice aces' ces.length cces'] 102 (0, 0))
  have HB0 := hid (((Below.refl w.heap.size w).alloc (Nat.le_refl _) (.cells #[.int .i64 k, .int .i64 v, .slice ads ds.length cds, .int .i64 ctk, .int .i64 ctv, .slice actds ctds.length cctds, .slice actks ctks.length cctks, .slice aces ces.length cces] 102)).alloc (by simp) (.cells #[.int .i64 k, .int .i64 v, .slice ads' ds.length cds', .int .i64 ctk, .int .i64 ctv, .slice actds' ctds.length cctds', .slice actks' ctks.length cctks', .slice aces' ces.length cces'] 102))
  clear hr hr' hbk hc1 hc2 hds hds' hctds hctds' hctks hctks' hces hces'
  go_enter Try.func78, Try.ntmps78
  go_wp2_with fail
  refine (HC1.out _ HB0.out).mono ?_
  rintro e w1 ⟨rfl, hb1⟩
  have hbw1 := HB0.out.trans (hb1.mono (by simp; omega))
  have hx1 := HX0.out.below hb1
  have g1_3 := hx1.at 1 3 rfl rfl
  have k1_3 := hx1.at 0 3 rfl rfl
  have g1_4 := hx1.at 1 4 rfl rfl
  have k1_4 := hx1.at 0 4 rfl rfl
  have g1_5 := hx1.at 1 5 rfl rfl
  have k1_5 := hx1.at 0 5 rfl rfl
  have g1_6 := hx1.at 1 6 rfl rfl
  have k1_6 := hx1.at 0 6 rfl rfl
  have g1_7 := hx1.at 1 7 rfl rfl
  have k1_7 := hx1.at 0 7 rfl rfl
  simp only [World.size_alloc] at k1_3 k1_4 k1_5 k1_6 k1_7
  have HX1 := hid hx1
  clear hx1 hb1 HC1
  go_wp2_with fail
  refine (HC2.out _ hbw1).mono ?_
  rintro e w2 ⟨rfl, hb2⟩
  have hbw2 := hbw1.trans (hb2.mono (by exact hbw1.size))
  have hx2 := HX1.out.below hb2
  have HX2 := hid hx2
  clear hx2 hb2 HC2
  go_wp2_with fail
  go_ret
  exact ⟨rfl, hbw2⟩

theorem eqFrs (ts : List Fr) (a a' : Option Addr) (c c' : Nat) (w : World) (hr : RdL w (Fr.ds ts) (.slice a ts.length c)) (hr' : RdL w (Fr.ds ts) (.slice a' ts.length c')) :
    Calls Try.prog 40 #[.slice a ts.length c, .slice a' ts.length c'] w fun e w' => e = .returned (.bool true) ∧ Below w.heap.size w w' := by
  obtain ⟨_, _, e, h2, h3, h4⟩ := hr.eFr
  simp only [Value.slice.injEq, true_and] at e
  obtain ⟨rfl, rfl⟩ := e
  obtain ⟨_, _, e, h2', h3', h4'⟩ := hr'.eFr
  simp only [Value.slice.injEq, true_and] at e
  obtain ⟨rfl, rfl⟩ := e
  have H4 := hid h4
  have H4' := hid h4'
  clear hr h4 hr' h4'
  go_enter Try.func40, Try.ntmps40
  go_wp2_with fail
  go_loopw [5] (fun i wr => ∃ (j : Nat), j ≤ ts.length ∧ i = .int .i64 j ∧ Below w.heap.size w wr) (fun i _ => ts.length - (intOf i).toNat)
  case atStart => exact ⟨0, by omega, rfl, Below.refl _ _⟩
  case round =>
    obtain ⟨j, hj, rfl, hb⟩ := hrel
    by_cases hlt : j < ts.length
    · obtain ⟨b, o, rfl, hbl, hall⟩ := H4.out (by omega)
      obtain ⟨b', o', rfl, hbl', hall'⟩ := H4'.out (by omega)
      obtain ⟨t, ht⟩ : ∃ t, ts[j]? = some t := ⟨_, List.getElem?_eq_getElem hlt⟩
      obtain ⟨k1, v1, ds1, ⟨⟨ctk1, ctv1, ctds1, ctks1⟩, ces1⟩⟩ := t
      obtain ⟨ads1, cds1, actds1, cctds1, actks1, cctks1, aces1, cces1, q0, q1, q2, q3, q4, q5, q6, q7, hrk⟩ := hall j k1 v1 ds1 ctk1 ctv1 ctds1 ctks1 ces1 ht
      obtain ⟨ads2, cds2, actds2, cctds2, actks2, cctks2, aces2, cces2, p0, p1, p2, p3, p4, p5, p6, p7, hrk'⟩ := hall' j k1 v1 ds1 ctk1 ctv1 ctds1 ctks1 ces1 ht
      clear hall H4 hall' H4'
      have d0 := cell_regrown ((hb.cell (p := ⟨b, o + j * 8, none⟩) hbl).trans q0)
      have d8 := cell_regrown ((hb.cell (p := ⟨b', o' + j * 8, none⟩) hbl').trans p0)
      have d1 := cell_regrown ((hb.cell (p := ⟨b, o + j * 8 + 1, none⟩) hbl).trans q1)
      have d9 := cell_regrown ((hb.cell (p := ⟨b', o' + j * 8 + 1, none⟩) hbl').trans p1)
      have d2 := cell_regrown ((hb.cell (p := ⟨b, o + j * 8 + 2, none⟩) hbl).trans q2)
      have d10 := cell_regrown ((hb.cell (p := ⟨b', o' + j * 8 + 2, none⟩) hbl').trans p2)
      have d3 := cell_regrown ((hb.cell (p := ⟨b, o + j * 8 + 3, none⟩) hbl).trans q3)
      have d11 := cell_regrown ((hb.cell (p := ⟨b', o' + j * 8 + 3, none⟩) hbl').trans p3)
      have d4 := cell_regrown ((hb.cell (p := ⟨b, o + j * 8 + 4, none⟩) hbl).trans q4)
      have d12 := cell_regrown ((hb.cell (p := ⟨b', o' + j * 8 + 4, none⟩) hbl').trans p4)
      have d5 := cell_regrown ((hb.cell (p := ⟨b, o + j * 8 + 5, none⟩) hbl).trans q5)
      have d13 := cell_regrown ((hb.cell (p := ⟨b', o' + j * 8 + 5, none⟩) hbl').trans p5)
      have d6 := cell_regrown ((hb.cell (p := ⟨b, o + j * 8 + 6, none⟩) hbl).trans q6)
      have d14 := cell_regrown ((hb.cell (p := ⟨b', o' + j * 8 + 6, none⟩) hbl').trans p6)
      have d7 := cell_regrown ((hb.cell (p := ⟨b, o + j * 8 + 7, none⟩) hbl).trans q7)
      have d15 := cell_regrown ((hb.cell (p := ⟨b', o' + j * 8 + 7, none⟩) hbl').trans p7)
      have hbg := Fr.bulk_get ts j _ ht
      have hc := fun d os => Calls.regrown_of (eqFr k1 v1 ds1 ctk1 ctv1 ctds1 ctks1 ces1 ads1 cds1 actds1 cctds1 actks1 cctks1 aces1 cces1 ads2 cds2 actds2 cctds2 actks2 cctks2 aces2 cces2 (grow (redrawn wr d) os) ((hrk.below hb).below (below_regrown wr d os)) ((hrk'.below hb).below (below_regrown wr d os)))
      have HC := hid hc
      clear ht hrk hrk' q0 q1 q2 q3 q4 q5 q6 q7 p0 p1 p2 p3 p4 p5 p6 p7 hc
      go_wp2_with fail
      refine wp_region_quiet_below (by kernel_rfl) (by kernel_rfl) ?_
      repeat (quiet_step (exact HC.out _ _))
      refine wpQuiet_nil ?_
      intro _ hw'
      obtain ⟨⟨dq, osq⟩, hw''⟩ := hw'
      subst hw''
      have hbq := hb.trans ((below_regrown wr dq osq).mono hb.size)
      clear HC d0 d1 d2 d3 d4 d5 d6 d7 d8 d9 d10 d11 d12 d13 d14 d15
      go_wp2_with fail
      go_roundw
      case rel => exact ⟨j + 1, by omega, by go_num, hbq⟩
      case measure => simp [intOf]; omega
    · go_wp2_with fail
      go_ret
      exact ⟨rfl, hb⟩

end Go.Proofs.Ytlbebnmhldolnaa

namespace Go.Proofs.Ytlbebnmhldolnaa
open Go.ChangeShapes Go.WideShapes Go.ChangeAt Go.RowKit
open Go.Sort (grow)
set_option linter.unusedVariables false

abbrev EqTh : Prop := ∀ (dn : Bool) (ctk : Int) (ctv : Int) (ctds : List Int) (ctks : List Co) (ces : List Int) (actds : Option Addr) (cctds : Nat) (actks : Option Addr) (cctks : Nat) (aces : Option Addr) (cces : Nat) (actds' : Option Addr) (cctds' : Nat) (actks' : Option Addr) (cctks' : Nat) (aces' : Option Addr) (cces' : Nat) (w : World), RdS w (Th.d (Th.mk dn (Cl.mk (Co.mk ctk ctv ctds ctks) ces))) [.bool dn, .int .i64 ctk, .int .i64 ctv, .slice actds ctds.length cctds, .slice actks ctks.length cctks, .slice aces ces.length cces] → RdS w (Th.d (Th.mk dn (Cl.mk (Co.mk ctk ctv ctds ctks) ces))) [.bool dn, .int .i64 ctk, .int .i64 ctv, .slice actds' ctds.length cctds', .slice actks' ctks.length cctks', .slice aces' ces.length cces'] →
  Calls Try.prog 79 #[.agg #[.bool dn, .int .i64 ctk, .int .i64 ctv, .slice actds ctds.length cctds, .slice actks ctks.length cctks, .slice aces ces.length cces], .agg #[.bool dn, .int .i64 ctk, .int .i64 ctv, .slice actds' ctds.length cctds', .slice actks' ctks.length cctks', .slice aces' ces.length cces']] w fun e w' => e = .returned (.bool true) ∧ Below w.heap.size w w'
theorem eqTh : EqTh := by
  intro dn ctk ctv ctds ctks ces actds cctds actks cctks aces cces actds' cctds' actks' cctks' aces' cces' w hr hr'
  have hbk : Th.bulk (Th.mk dn (Cl.mk (Co.mk ctk ctv ctds ctks) ces)) = Cl.bulk (Cl.mk (Co.mk ctk ctv ctds ctks) ces) := rfl
  obtain ⟨⟨⟨loctk, hictk⟩, ⟨loctv, hictv⟩, hctds, hctks⟩, hces⟩ := hr.fTh
  obtain ⟨⟨⟨loctk', hictk'⟩, ⟨loctv', hictv'⟩, hctds', hctks'⟩, hces'⟩ := hr'.fTh
  have hc1 := fun (W : World) (hb : Below w.heap.size w W) => eqCl ctk ctv ctds ctks ces actds cctds actks cctks aces cces actds' cctds' actks' cctks' aces' cces' W ((RdS.subTh_c hr).below hb) ((RdS.subTh_c hr').below hb)
  have HC1 := hid hc1
  have HX0 := hid (((Boxes.nil w).alloc #[.bool dn, .int .i64 ctk, .int .i64 ctv, .slice actds ctds.length cctds, .slice actks ctks.length cctks, .slice aces ces.length cces] 98 (0, 0)).alloc #[.bool dn, .int .i64 ctk, .int .i64 ctv, .slice actds' ctds.length cctds', .slice actks' ctks.length cctks', .slice aces' ces.length cces'] 98 (0, 0))
  have HB0 := hid (((Below.refl w.heap.size w).alloc (Nat.le_refl _) (.cells #[.bool dn, .int .i64 ctk, .int .i64 ctv, .slice actds ctds.length cctds, .slice actks ctks.length cctks, .slice aces ces.length cces] 98)).alloc (by simp) (.cells #[.bool dn, .int .i64 ctk, .int .i64 ctv, .slice actds' ctds.length cctds', .slice actks' ctks.length cctks', .slice aces' ces.length cces'] 98))
  clear hr hr' hbk hc1 hctds hctds' hctks hctks' hces hces'
  go_enter Try.func79, Try.ntmps79
  go_wp2_with fail
  refine (HC1.out _ HB0.out).mono ?_
  rintro e w1 ⟨rfl, hb1⟩
  have hbw1 := HB0.out.trans (hb1.mono (by simp; omega))
  have hx1 := HX0.out.below hb1
  have HX1 := hid hx1
  clear hx1 hb1 HC1
  go_wp2_with fail
  go_ret
  exact ⟨rfl, hbw1⟩

theorem eqThs (ts : List Th) (a a' : Option Addr) (c c' : Nat) (w : World) (hr : RdL w (Th.ds ts) (.slice a ts.length c)) (hr' : RdL w (Th.ds ts) (.slice a' ts.length c')) :
    Calls Try.prog 41 #[.slice a ts.length c, .slice a' ts.length c'] w fun e w' => e = .returned (.bool true) ∧ Below w.heap.size w w' := by
  obtain ⟨_, _, e, h2, h3, h4⟩ := hr.eTh
  simp only [Value.slice.injEq, true_and] at e
  obtain ⟨rfl, rfl⟩ := e
  obtain ⟨_, _, e, h2', h3', h4'⟩ := hr'.eTh
  simp only [Value.slice.injEq, true_and] at e
  obtain ⟨rfl, rfl⟩ := e
  have H4 := hid h4
  have H4' := hid h4'
  clear hr h4 hr' h4'
  go_enter Try.func41, Try.ntmps41
  go_wp2_with fail
  go_loopw [5] (fun i wr => ∃ (j : Nat), j ≤ ts.length ∧ i = .int .i64 j ∧ Below w.heap.size w wr) (fun i _ => ts.length - (intOf i).toNat)
  case atStart => exact ⟨0, by omega, rfl, Below.refl _ _⟩
  case round =>
    obtain ⟨j, hj, rfl, hb⟩ := hrel
    by_cases hlt : j < ts.length
    · obtain ⟨b, o, rfl, hbl, hall⟩ := H4.out (by omega)
      obtain ⟨b', o', rfl, hbl', hall'⟩ := H4'.out (by omega)
      obtain ⟨t, ht⟩ : ∃ t, ts[j]? = some t := ⟨_, List.getElem?_eq_getElem hlt⟩
      obtain ⟨dn1, ⟨⟨ctk1, ctv1, ctds1, ctks1⟩, ces1⟩⟩ := t
      obtain ⟨actds1, cctds1, actks1, cctks1, aces1, cces1, q0, q1, q2, q3, q4, q5, hrk⟩ := hall j dn1 ctk1 ctv1 ctds1 ctks1 ces1 ht
      obtain ⟨actds2, cctds2, actks2, cctks2, aces2, cces2, p0, p1, p2, p3, p4, p5, hrk'⟩ := hall' j dn1 ctk1 ctv1 ctds1 ctks1 ces1 ht
      clear hall H4 hall' H4'
      have d0 := cell_regrown ((hb.cell (p := ⟨b, o + j * 6, none⟩) hbl).trans q0)
      have d6 := cell_regrown ((hb.cell (p := ⟨b', o' + j * 6, none⟩) hbl').trans p0)
      have d1 := cell_regrown ((hb.cell (p := ⟨b, o + j * 6 + 1, none⟩) hbl).trans q1)
      have d7 := cell_regrown ((hb.cell (p := ⟨b', o' + j * 6 + 1, none⟩) hbl').trans p1)
      have d2 := cell_regrown ((hb.cell (p := ⟨b, o + j * 6 + 2, none⟩) hbl).trans q2)
      have d8 := cell_regrown ((hb.cell (p := ⟨b', o' + j * 6 + 2, none⟩) hbl').trans p2)
      have d3 := cell_regrown ((hb.cell (p := ⟨b, o + j * 6 + 3, none⟩) hbl).trans q3)
      have d9 := cell_regrown ((hb.cell (p := ⟨b', o' + j * 6 + 3, none⟩) hbl').trans p3)
      have d4 := cell_regrown ((hb.cell (p := ⟨b, o + j * 6 + 4, none⟩) hbl).trans q4)
      have d10 := cell_regrown ((hb.cell (p := ⟨b', o' + j * 6 + 4, none⟩) hbl').trans p4)
      have d5 := cell_regrown ((hb.cell (p := ⟨b, o + j * 6 + 5, none⟩) hbl).trans q5)
      have d11 := cell_regrown ((hb.cell (p := ⟨b', o' + j * 6 + 5, none⟩) hbl').trans p5)
      have hbg := Th.bulk_get ts j _ ht
      have hc := fun d os => Calls.regrown_of (eqTh dn1 ctk1 ctv1 ctds1 ctks1 ces1 actds1 cctds1 actks1 cctks1 aces1 cces1 actds2 cctds2 actks2 cctks2 aces2 cces2 (grow (redrawn wr d) os) ((hrk.below hb).below (below_regrown wr d os)) ((hrk'.below hb).below (below_regrown wr d os)))
      have HC := hid hc
      clear ht hrk hrk' q0 q1 q2 q3 q4 q5 p0 p1 p2 p3 p4 p5 hc
      go_wp2_with fail
      refine wp_region_quiet_below (by kernel_rfl) (by kernel_rfl) ?_
      repeat (quiet_step (exact HC.out _ _))
      refine wpQuiet_nil ?_
      intro _ hw'
      obtain ⟨⟨dq, osq⟩, hw''⟩ := hw'
      subst hw''
      have hbq := hb.trans ((below_regrown wr dq osq).mono hb.size)
      clear HC d0 d1 d2 d3 d4 d5 d6 d7 d8 d9 d10 d11
      go_wp2_with fail
      go_roundw
      case rel => exact ⟨j + 1, by omega, by go_num, hbq⟩
      case measure => simp [intOf]; omega
    · go_wp2_with fail
      go_ret
      exact ⟨rfl, hb⟩

end Go.Proofs.Ytlbebnmhldolnaa

namespace Go.Proofs.Ytlbebnmhldolnaa
open Go.ChangeShapes Go.WideShapes Go.ChangeAt Go.RowKit
open Go.Sort (grow)
set_option linter.unusedVariables false

abbrev EqNe : Prop := ∀ (ctk : Int) (ctv : Int) (ctds : List Int) (ctks : List Co) (ces : List Int) (ss : List Fr) (hs : List Th) (actds : Option Addr) (cctds : Nat) (actks : Option Addr) (cctks : Nat) (aces : Option Addr) (cces : Nat) (ass : Option Addr) (css : Nat) (ahs : Option Addr) (chs : Nat) (actds' : Option Addr) (cctds' : Nat) (actks' : Option Addr) (cctks' : Nat) (aces' : Option Addr) (cces' : Nat) (ass' : Option Addr) (css' : Nat) (ahs' : Option Addr) (chs' : Nat) (w : World), RdS w (Ne.d (Ne.mk (Cl.mk (Co.mk ctk ctv ctds ctks) ces) ss hs)) [.int .i64 ctk, .int .i64 ctv, .slice actds ctds.length cctds, .slice actks ctks.length cctks, .slice aces ces.length cces, .slice ass ss.length css, .slice ahs hs.length chs] → RdS w (Ne.d (Ne.mk (Cl.mk (Co.mk ctk ctv ctds ctks) ces) ss hs)) [.int .i64 ctk, .int .i64 ctv, .slice actds' ctds.length cctds', .slice actks' ctks.length cctks', .slice aces' ces.length cces', .slice ass' ss.length css', .slice ahs' hs.length chs'] →
  Calls Try.prog 15 #[.agg #[.int .i64 ctk, .int .i64 ctv, .slice actds ctds.length cctds, .slice actks ctks.length cctks, .slice aces ces.length cces, .slice ass ss.length css, .slice ahs hs.length chs], .agg #[.int .i64 ctk, .int .i64 ctv, .slice actds' ctds.length cctds', .slice actks' ctks.length cctks', .slice aces' ces.length cces', .slice ass' ss.length css', .slice ahs' hs.length chs']] w fun e w' => e = .returned (.bool true) ∧ Below w.heap.size w w'
theorem eqNe : EqNe := by
  intro ctk ctv ctds ctks ces ss hs actds cctds actks cctks aces cces ass css ahs chs actds' cctds' actks' cctks' aces' cces' ass' css' ahs' chs' w hr hr'
  have hbk : Ne.bulk (Ne.mk (Cl.mk (Co.mk ctk ctv ctds ctks) ces) ss hs) = Cl.bulk (Cl.mk (Co.mk ctk ctv ctds ctks) ces) + Fr.bulks ss + Th.bulks hs := rfl
  obtain ⟨⟨⟨⟨loctk, hictk⟩, ⟨loctv, hictv⟩, hctds, hctks⟩, hces⟩, hss, hhs⟩ := hr.fNe
  obtain ⟨⟨⟨⟨loctk', hictk'⟩, ⟨loctv', hictv'⟩, hctds', hctks'⟩, hces'⟩, hss', hhs'⟩ := hr'.fNe
  have hc1 := fun (W : World) (hb : Below w.heap.size w W) => eqCl ctk ctv ctds ctks ces actds cctds actks cctks aces cces actds' cctds' actks' cctks' aces' cces' W ((RdS.subNe_c hr).below hb) ((RdS.subNe_c hr').below hb)
  have hc2 := fun (W : World) (hb : Below w.heap.size w W) => eqFrs ss ass ass' css css' W (hss.below hb) (hss'.below hb)
  have hc3 := fun (W : World) (hb : Below w.heap.size w W) => eqThs hs ahs ahs' chs chs' W (hhs.below hb) (hhs'.below hb)
  have HC1 := hid hc1
  have HC2 := hid hc2
  have HC3 := hid hc3
  have HX0 := hid (((Boxes.nil w).alloc #[.int .i64 ctk, .int .i64 ctv, .slice actds ctds.length cctds, .slice actks ctks.length cctks, .slice aces ces.length cces, .slice ass ss.length css, .slice ahs hs.length chs] 41 (0, 0)).alloc #[.int .i64 ctk, .int .i64 ctv, .slice actds' ctds.length cctds', .slice actks' ctks.length cctks', .slice aces' ces.length cces', .slice ass' ss.length css', .slice ahs' hs.length chs'] 41 (0, 0))
  have HB0 := hid (((Below.refl w.heap.size w).alloc (Nat.le_refl _) (.cells #[.int .i64 ctk, .int .i64 ctv, .slice actds ctds.length cctds, .slice actks ctks.length cctks, .slice aces ces.length cces, .slice ass ss.length css, .slice ahs hs.length chs] 41)).alloc (by simp) (.cells #[.int .i64 ctk, .int .i64 ctv, .slice actds' ctds.length cctds', .slice actks' ctks.length cctks', .slice aces' ces.length cces', .slice ass' ss.length css', .slice ahs' hs.length chs'] 41))
  clear hr hr' hbk hc1 hc2 hc3 hctds hctds' hctks hctks' hces hces' hss hss' hhs hhs'
  go_enter Try.func15, Try.ntmps15
  go_wp2_with fail
  refine (HC1.out _ HB0.out).mono ?_
  rintro e w1 ⟨rfl, hb1⟩
  have hbw1 := HB0.out.trans (hb1.mono (by simp; omega))
  have hx1 := HX0.out.below hb1
  have g1_5 := hx1.at 1 5 rfl rfl
  have k1_5 := hx1.at 0 5 rfl rfl
  have g1_6 := hx1.at 1 6 rfl rfl
  have k1_6 := hx1.at 0 6 rfl rfl
  simp only [World.size_alloc] at k1_5 k1_6
  have HX1 := hid hx1
  clear hx1 hb1 HC1
  go_wp2_with fail
  refine (HC2.out _ hbw1).mono ?_
  rintro e w2 ⟨rfl, hb2⟩
  have hbw2 := hbw1.trans (hb2.mono (by exact hbw1.size))
  have hx2 := HX1.out.below hb2
  have g2_6 := hx2.at 1 6 rfl rfl
  have k2_6 := hx2.at 0 6 rfl rfl
  simp only [World.size_alloc] at k2_6
  have HX2 := hid hx2
  clear hx2 hb2 HC2
  go_wp2_with fail
  refine (HC3.out _ hbw2).mono ?_
  rintro e w3 ⟨rfl, hb3⟩
  have hbw3 := hbw2.trans (hb3.mono (by exact hbw2.size))
  have hx3 := HX2.out.below hb3
  have HX3 := hid hx3
  clear hx3 hb3 HC3
  go_wp2_with fail
  go_ret
  exact ⟨rfl, hbw3⟩

end Go.Proofs.Ytlbebnmhldolnaa

namespace Go.Proofs.Ytlbebnmhldolnaa
open Go.ChangeShapes Go.WideShapes Go.ChangeAt Go.RowKit
open Go.Sort (grow)
open Go.ChangeMaps (open_string)
set_option linter.unusedVariables false

set_option maxHeartbeats 1000000 in
theorem FnExactIsFinished_walk (fs_x : List Co) (afs_x : Option Addr) (cfs_x : Nat) (ctk_y : Int) (ctv_y : Int) (ctds_y : List Int) (ctks_y : List Co) (ces_y : List Int) (ss_y : List Fr) (hs_y : List Th) (actds_y : Option Addr) (cctds_y : Nat) (actks_y : Option Addr) (cctks_y : Nat) (aces_y : Option Addr) (cces_y : Nat) (ass_y : Option Addr) (css_y : Nat) (ahs_y : Option Addr) (chs_y : Nat) (w : World) (hr_x : RdS w (Bk.d (Bk.mk fs_x)) [.slice afs_x fs_x.length cfs_x]) (hr_y : RdS w (Ne.d (Ne.mk (Cl.mk (Co.mk ctk_y ctv_y ctds_y ctks_y) ces_y) ss_y hs_y)) [.int .i64 ctk_y, .int .i64 ctv_y, .slice actds_y ctds_y.length cctds_y, .slice actks_y ctks_y.length cctks_y, .slice aces_y ces_y.length cces_y, .slice ass_y ss_y.length css_y, .slice ahs_y hs_y.length chs_y]) :
    Calls Try.prog 6 #[.agg #[.slice afs_x fs_x.length cfs_x], .agg #[.int .i64 ctk_y, .int .i64 ctv_y, .slice actds_y ctds_y.length cctds_y, .slice actks_y ctks_y.length cctks_y, .slice aces_y ces_y.length cces_y, .slice ass_y ss_y.length css_y, .slice ahs_y hs_y.length chs_y]] w fun e w' => e = .returned (.bool true) ∧ Below w.heap.size w w' := by
  have hbw0 : Below w.heap.size w ((w.alloc (.cells #[.slice afs_x fs_x.length cfs_x] 27)).alloc (.cells #[.int .i64 ctk_y, .int .i64 ctv_y, .slice actds_y ctds_y.length cctds_y, .slice actks_y ctks_y.length cctks_y, .slice aces_y ces_y.length cces_y, .slice ass_y ss_y.length css_y, .slice ahs_y hs_y.length chs_y] 60)) := (((Below.refl _ _).alloc (by simp) _).alloc (by simp) _)
  have HX0 := hid (((Boxes.nil w).alloc #[.slice afs_x fs_x.length cfs_x] 27 (0, 0)).alloc #[.int .i64 ctk_y, .int .i64 ctv_y, .slice actds_y ctds_y.length cctds_y, .slice actks_y ctks_y.length cctks_y, .slice aces_y ces_y.length cces_y, .slice ass_y ss_y.length css_y, .slice ahs_y hs_y.length chs_y] 60 (0, 0))
  have hc0 := fun (W : World) (hb : Below w.heap.size w W) => szBk fs_x afs_x cfs_x (1048576) W (hr_x.below hb) (by omega) (by omega)
  by_cases hp0 : ((Bk.bulk (Bk.mk fs_x) : Nat) : Int) ≤ 1048576
  case neg =>
    rw [purse_no hp0] at hc0
    have HC0 := hid hc0
    have HB0 := hid hbw0
    clear hbw0 hc0 hr_x hr_y
    go_enter Try.func6, Try.ntmps6
    go_wp2_with fail
    refine (HC0.out _ HB0.out).mono ?_
    rintro e w1 ⟨rfl, hb⟩
    have HB1 := hid (HB0.out.trans (hb.mono (by simp; omega)))
    have HX1 := hid (HX0.out.below hb)
    clear hb HC0
    go_wp2_with fail
    go_ret
    exact ⟨rfl, HB1.out⟩
  case pos =>
    rw [purse_ok hp0] at hc0
    have hc1 := fun (W : World) (hb : Below w.heap.size w W) => szNe ctk_y ctv_y ctds_y ctks_y ces_y ss_y hs_y actds_y cctds_y actks_y cctks_y aces_y cces_y ass_y css_y ahs_y chs_y (1048576 - (Bk.bulk (Bk.mk fs_x) : Nat)) W (hr_y.below hb) (by omega) (by omega)
    by_cases hp1 : ((Ne.bulk (Ne.mk (Cl.mk (Co.mk ctk_y ctv_y ctds_y ctks_y) ces_y) ss_y hs_y) : Nat) : Int) ≤ 1048576 - (Bk.bulk (Bk.mk fs_x) : Nat)
    case neg =>
      rw [purse_no hp1] at hc1
      have HC0 := hid hc0
      have HC1 := hid hc1
      have HB0 := hid hbw0
      clear hbw0 hc0 hc1 hr_x hr_y
      go_enter Try.func6, Try.ntmps6
      go_wp2_with fail
      refine (HC0.out _ HB0.out).mono ?_
      rintro e w1 ⟨rfl, hb⟩
      have HB1 := hid (HB0.out.trans (hb.mono (by simp; omega)))
      have HX1 := hid (HX0.out.below hb)
      clear hb HC0
      have g0_0 := HX1.out.at 0 0 rfl rfl
      have g0_1 := HX1.out.at 0 1 rfl rfl
      have g0_2 := HX1.out.at 0 2 rfl rfl
      have g0_3 := HX1.out.at 0 3 rfl rfl
      have g0_4 := HX1.out.at 0 4 rfl rfl
      have g0_5 := HX1.out.at 0 5 rfl rfl
      have g0_6 := HX1.out.at 0 6 rfl rfl
      simp only [World.size_alloc] at g0_0 g0_1 g0_2 g0_3 g0_4 g0_5 g0_6
      go_wp2_with fail
      clear g0_0 g0_1 g0_2 g0_3 g0_4 g0_5 g0_6
      refine (HC1.out _ HB1.out).mono ?_
      rintro e w2 ⟨rfl, hb⟩
      have HB2 := hid (HB1.out.trans (hb.mono HB1.out.size))
      have HX2 := hid (HX1.out.below hb)
      clear hb HC1
      go_wp2_with fail
      go_ret
      exact ⟨rfl, HB2.out⟩
    case pos =>
      rw [purse_ok hp1] at hc1
      have HM_x : Hid (Bk.bulk (Bk.mk fs_x) ≤ 1048576) := by show _ ≤ _; omega
      have HM_y : Hid (Ne.bulk (Ne.mk (Cl.mk (Co.mk ctk_y ctv_y ctds_y ctks_y) ces_y) ss_y hs_y) ≤ 1048576) := by show _ ≤ _; omega
      have HC0 := hid hc0
      have HC1 := hid hc1
      have HB0 := hid hbw0
      have R_x := hid hr_x
      have R_y := hid hr_y
      clear hbw0 hc0 hc1 hr_x hr_y
      go_enter Try.func6, Try.ntmps6
      go_wp2_with fail
      refine (HC0.out _ HB0.out).mono ?_
      rintro e w1 ⟨rfl, hb⟩
      have HB1 := hid (HB0.out.trans (hb.mono (by simp; omega)))
      have HX1 := hid (HX0.out.below hb)
      clear hb HC0
      have g0_0 := HX1.out.at 0 0 rfl rfl
      have g0_1 := HX1.out.at 0 1 rfl rfl
      have g0_2 := HX1.out.at 0 2 rfl rfl
      have g0_3 := HX1.out.at 0 3 rfl rfl
      have g0_4 := HX1.out.at 0 4 rfl rfl
      have g0_5 := HX1.out.at 0 5 rfl rfl
      have g0_6 := HX1.out.at 0 6 rfl rfl
      simp only [World.size_alloc] at g0_0 g0_1 g0_2 g0_3 g0_4 g0_5 g0_6
      go_wp2_with fail
      clear g0_0 g0_1 g0_2 g0_3 g0_4 g0_5 g0_6
      refine (HC1.out _ HB1.out).mono ?_
      rintro e w2 ⟨rfl, hb⟩
      have HB2 := hid (HB1.out.trans (hb.mono HB1.out.size))
      have HX2 := hid (HX1.out.below hb)
      clear hb HC1
      have R_x := hid (R_x.out.below HB2.out)
      have R_y := hid (R_y.out.below HB2.out)
      go_wp2_with fail
      have g1_0 := HX2.out.at 1 0 rfl rfl
      have g0_0 := HX2.out.at 0 0 rfl rfl
      have g0_1 := HX2.out.at 0 1 rfl rfl
      have g0_2 := HX2.out.at 0 2 rfl rfl
      have g0_3 := HX2.out.at 0 3 rfl rfl
      have g0_4 := HX2.out.at 0 4 rfl rfl
      have g0_5 := HX2.out.at 0 5 rfl rfl
      have g0_6 := HX2.out.at 0 6 rfl rfl
      simp only [World.size_alloc] at g0_0 g0_1 g0_2 g0_3 g0_4 g0_5 g0_6
      have hkeep : ∀ V V' : World, Below V.heap.size V V' → (Below w2.heap.size w2 V ∧ V.cell? ⟨w.heap.size, 0, none⟩ = some (.slice afs_x fs_x.length cfs_x) ∧ V.cell? ⟨w.heap.size + 1, 0, none⟩ = some (.int .i64 ctk_y) ∧ V.cell? ⟨w.heap.size + 1, 1, none⟩ = some (.int .i64 ctv_y) ∧ V.cell? ⟨w.heap.size + 1, 2, none⟩ = some (.slice actds_y ctds_y.length cctds_y) ∧ V.cell? ⟨w.heap.size + 1, 3, none⟩ = some (.slice actks_y ctks_y.length cctks_y) ∧ V.cell? ⟨w.heap.size + 1, 4, none⟩ = some (.slice aces_y ces_y.length cces_y) ∧ V.cell? ⟨w.heap.size + 1, 5, none⟩ = some (.slice ass_y ss_y.length css_y) ∧ V.cell? ⟨w.heap.size + 1, 6, none⟩ = some (.slice ahs_y hs_y.length chs_y)) → (Below w2.heap.size w2 V' ∧ V'.cell? ⟨w.heap.size, 0, none⟩ = some (.slice afs_x fs_x.length cfs_x) ∧ V'.cell? ⟨w.heap.size + 1, 0, none⟩ = some (.int .i64 ctk_y) ∧ V'.cell? ⟨w.heap.size + 1, 1, none⟩ = some (.int .i64 ctv_y) ∧ V'.cell? ⟨w.heap.size + 1, 2, none⟩ = some (.slice actds_y ctds_y.length cctds_y) ∧ V'.cell? ⟨w.heap.size + 1, 3, none⟩ = some (.slice actks_y ctks_y.length cctks_y) ∧ V'.cell? ⟨w.heap.size + 1, 4, none⟩ = some (.slice aces_y ces_y.length cces_y) ∧ V'.cell? ⟨w.heap.size + 1, 5, none⟩ = some (.slice ass_y ss_y.length css_y) ∧ V'.cell? ⟨w.heap.size + 1, 6, none⟩ = some (.slice ahs_y hs_y.length chs_y)) := fun V V' hb ⟨h, _⟩ =>
        have hb' := h.trans (hb.mono h.size)
        ⟨hb', (hb'.cell (p := ⟨_, 0, none⟩) (World.block_lt_of_cell? _ _ g1_0)).trans g1_0, (hb'.cell (p := ⟨_, 0, none⟩) (World.block_lt_of_cell? _ _ g0_0)).trans g0_0, (hb'.cell (p := ⟨_, 1, none⟩) (World.block_lt_of_cell? _ _ g0_1)).trans g0_1, (hb'.cell (p := ⟨_, 2, none⟩) (World.block_lt_of_cell? _ _ g0_2)).trans g0_2, (hb'.cell (p := ⟨_, 3, none⟩) (World.block_lt_of_cell? _ _ g0_3)).trans g0_3, (hb'.cell (p := ⟨_, 4, none⟩) (World.block_lt_of_cell? _ _ g0_4)).trans g0_4, (hb'.cell (p := ⟨_, 5, none⟩) (World.block_lt_of_cell? _ _ g0_5)).trans g0_5, (hb'.cell (p := ⟨_, 6, none⟩) (World.block_lt_of_cell? _ _ g0_6)).trans g0_6⟩
      have KEEP := hid hkeep
      clear hkeep
      have hbd : Below w2.heap.size w2 w2.drew := (Below.refl _ _).drew
      go_region_held3 (fun V => Below w2.heap.size w2 V ∧ V.cell? ⟨w.heap.size, 0, none⟩ = some (.slice afs_x fs_x.length cfs_x) ∧ V.cell? ⟨w.heap.size + 1, 0, none⟩ = some (.int .i64 ctk_y) ∧ V.cell? ⟨w.heap.size + 1, 1, none⟩ = some (.int .i64 ctv_y) ∧ V.cell? ⟨w.heap.size + 1, 2, none⟩ = some (.slice actds_y ctds_y.length cctds_y) ∧ V.cell? ⟨w.heap.size + 1, 3, none⟩ = some (.slice actks_y ctks_y.length cctks_y) ∧ V.cell? ⟨w.heap.size + 1, 4, none⟩ = some (.slice aces_y ces_y.length cces_y) ∧ V.cell? ⟨w.heap.size + 1, 5, none⟩ = some (.slice ass_y ss_y.length css_y) ∧ V.cell? ⟨w.heap.size + 1, 6, none⟩ = some (.slice ahs_y hs_y.length chs_y))
        (first | exact KEEP.out _ _ hbq (by assumption) | go_keep)
        (first
          | (go_at_call 12; (with_reducible refine (toBk fs_x afs_x cfs_x _ HM_x.out ?_).mono ?_); (exact R_x.out.below (‹Below w2.heap.size w2 _ ∧ _›).1); rintro e V0 ⟨afs_xs, cfs_xs, rfl, ho_xs, hbq⟩; have hbq_0 := hbq)
          | (go_at_call 24; (with_reducible refine (toNe ctk_y ctv_y ctds_y ctks_y ces_y ss_y hs_y actds_y cctds_y actks_y cctks_y aces_y cces_y ass_y css_y ahs_y chs_y _ HM_y.out ?_).mono ?_); (exact R_y.out.below (‹Below w2.heap.size w2 _ ∧ _›).1); rintro e V1 ⟨actds_ys, cctds_ys, actks_ys, cctks_ys, aces_ys, cces_ys, ass_ys, css_ys, ahs_ys, chs_ys, rfl, ho_ys, hbq⟩; have hbq_1 := hbq)
          | (go_at_call 26; (with_reducible refine (spec_IsFinished _ _ _ _ _ _ _ _ _ _ _ _ _ _ _ _ _ _ _ _ _ ?_ ?_ ?_ ?_).mono ?_); (exact HM_x.out); (exact HM_y.out); (exact ho_xs.rd.below hbq_1); (exact ho_ys.rd); rintro e Vz ⟨rfl, hbq⟩))
      obtain ⟨hbr, -⟩ := ‹Below w2.heap.size w2 Vz ∧ _›
      clear KEEP hbd g1_0 g0_0 g0_1 g0_2 g0_3 g0_4 g0_5 g0_6
      have HB3 := hid (HB2.out.trans (hbr.mono HB2.out.size))
      have HX3 := hid (HX2.out.below hbr)
      have R_x := hid (R_x.out.below hbr)
      have R_y := hid (R_y.out.below hbr)
      clear hbr
      clear ho_xs ho_ys
      go_wp2_with fail
      have g1_0 := HX3.out.at 1 0 rfl rfl
      go_wp2_with fail
      clear g1_0
      refine (toBk fs_x afs_x cfs_x _ HM_x.out ?_).mono ?_
      · exact R_x.out
      rintro e x0 ⟨afs_xx, cfs_xx, rfl, ho_xx, hb⟩
      have HB4 := hid (HB3.out.trans (hb.mono HB3.out.size))
      have HX4 := hid (HX3.out.below hb)
      have R_x := hid (R_x.out.below hb)
      have R_y := hid (R_y.out.below hb)
      have C_xx := hid ho_xx.rd
      clear hb ho_xx
      have hba : Below x0.heap.size x0 (x0.alloc (.cells #[.slice afs_xx fs_x.length cfs_xx] 45)) := (Below.refl _ _).alloc (Nat.le_refl _) _
      have HXa := hid (HX4.out.alloc #[.slice afs_xx fs_x.length cfs_xx] 45 (0, 0))
      have HB5 := hid (HB4.out.trans (hba.mono HB4.out.size))
      have HX5 := hid (HX4.out.below hba)
      have R_x := hid (R_x.out.below hba)
      have R_y := hid (R_y.out.below hba)
      have C_xx := hid (C_xx.out.below hba)
      clear hba
      have HX5 := HXa
      have g1_0 := HX5.out.at 1 0 rfl rfl
      have g1_1 := HX5.out.at 1 1 rfl rfl
      have g1_2 := HX5.out.at 1 2 rfl rfl
      have g1_3 := HX5.out.at 1 3 rfl rfl
      have g1_4 := HX5.out.at 1 4 rfl rfl
      have g1_5 := HX5.out.at 1 5 rfl rfl
      have g1_6 := HX5.out.at 1 6 rfl rfl
      simp only [World.size_alloc] at g1_0 g1_1 g1_2 g1_3 g1_4 g1_5 g1_6
      go_wp2_with fail
      clear g1_0 g1_1 g1_2 g1_3 g1_4 g1_5 g1_6
      refine (toNe ctk_y ctv_y ctds_y ctks_y ces_y ss_y hs_y actds_y cctds_y actks_y cctks_y aces_y cces_y ass_y css_y ahs_y chs_y _ HM_y.out ?_).mono ?_
      · exact R_y.out
      rintro e x1 ⟨actds_yx, cctds_yx, actks_yx, cctks_yx, aces_yx, cces_yx, ass_yx, css_yx, ahs_yx, chs_yx, rfl, ho_yx, hb⟩
      have HB6 := hid (HB5.out.trans (hb.mono HB5.out.size))
      have HX6 := hid (HX5.out.below hb)
      have R_x := hid (R_x.out.below hb)
      have R_y := hid (R_y.out.below hb)
      have C_xx := hid (C_xx.out.below hb)
      have C_yx := hid ho_yx.rd
      clear hb ho_yx
      have hba : Below x1.heap.size x1 (x1.alloc (.cells #[.int .i64 ctk_y, .int .i64 ctv_y, .slice actds_yx ctds_y.length cctds_yx, .slice actks_yx ctks_y.length cctks_yx, .slice aces_yx ces_y.length cces_yx, .slice ass_yx ss_y.length css_yx, .slice ahs_yx hs_y.length chs_yx] 41)) := (Below.refl _ _).alloc (Nat.le_refl _) _
      have HXa := hid (HX6.out.alloc #[.int .i64 ctk_y, .int .i64 ctv_y, .slice actds_yx ctds_y.length cctds_yx, .slice actks_yx ctks_y.length cctks_yx, .slice aces_yx ces_y.length cces_yx, .slice ass_yx ss_y.length css_yx, .slice ahs_yx hs_y.length chs_yx] 41 (0, 0))
      have HB7 := hid (HB6.out.trans (hba.mono HB6.out.size))
      have HX7 := hid (HX6.out.below hba)
      have R_x := hid (R_x.out.below hba)
      have R_y := hid (R_y.out.below hba)
      have C_xx := hid (C_xx.out.below hba)
      have C_yx := hid (C_yx.out.below hba)
      clear hba
      have HX7 := HXa
      have g1_0 := HX7.out.at 1 0 rfl rfl
      have g0_0 := HX7.out.at 0 0 rfl rfl
      have g0_1 := HX7.out.at 0 1 rfl rfl
      have g0_2 := HX7.out.at 0 2 rfl rfl
      have g0_3 := HX7.out.at 0 3 rfl rfl
      have g0_4 := HX7.out.at 0 4 rfl rfl
      have g0_5 := HX7.out.at 0 5 rfl rfl
      have g0_6 := HX7.out.at 0 6 rfl rfl
      go_wp2_with fail
      clear g1_0 g0_0 g0_1 g0_2 g0_3 g0_4 g0_5 g0_6
      refine (impl_IsFinished _ _ _ _ _ _ _ _ _ _ _ _ _ _ _ _ _ _ _ _ _ ?_ ?_ ?_ ?_).mono ?_
      · exact HM_x.out
      · exact HM_y.out
      · exact C_xx.out
      · exact C_yx.out
      rintro e vi ⟨rfl, hb⟩
      have HB8 := hid (HB7.out.trans (hb.mono HB7.out.size))
      have HX8 := hid (HX7.out.below hb)
      have R_x := hid (R_x.out.below hb)
      have R_y := hid (R_y.out.below hb)
      have C_xx := hid (C_xx.out.below hb)
      have C_yx := hid (C_yx.out.below hb)
      clear hb
      go_wp2_with fail
      have g1_0 := HX8.out.at 1 0 rfl rfl
      have g3_0 := HX8.out.at 3 0 rfl rfl
      have hkeep : ∀ V V' : World, Below V.heap.size V V' → (Below vi.heap.size vi V ∧ V.cell? ⟨x0.heap.size, 0, none⟩ = some (.slice afs_xx fs_x.length cfs_xx) ∧ V.cell? ⟨w.heap.size, 0, none⟩ = some (.slice afs_x fs_x.length cfs_x)) → (Below vi.heap.size vi V' ∧ V'.cell? ⟨x0.heap.size, 0, none⟩ = some (.slice afs_xx fs_x.length cfs_xx) ∧ V'.cell? ⟨w.heap.size, 0, none⟩ = some (.slice afs_x fs_x.length cfs_x)) := fun V V' hb ⟨h, _⟩ =>
        have hb' := h.trans (hb.mono h.size)
        ⟨hb', (hb'.cell (p := ⟨_, 0, none⟩) (World.block_lt_of_cell? _ _ g1_0)).trans g1_0, (hb'.cell (p := ⟨_, 0, none⟩) (World.block_lt_of_cell? _ _ g3_0)).trans g3_0⟩
      have KEEP := hid hkeep
      clear hkeep
      have hbd : Below vi.heap.size vi vi.drew := (Below.refl _ _).drew
      go_region_held3 (fun V => Below vi.heap.size vi V ∧ V.cell? ⟨x0.heap.size, 0, none⟩ = some (.slice afs_xx fs_x.length cfs_xx) ∧ V.cell? ⟨w.heap.size, 0, none⟩ = some (.slice afs_x fs_x.length cfs_x))
        (first | exact KEEP.out _ _ hbq (by assumption) | go_keep)
        (first
          | (go_at_call 12; (with_reducible refine (toBk fs_x afs_x cfs_x _ HM_x.out ?_).mono ?_); (exact R_x.out.below (‹Below vi.heap.size vi _ ∧ _›).1); rintro e y0a ⟨afs_xe, cfs_xe, rfl, ho_xe, hbq⟩)
          | (go_at_call 16; (with_reducible refine (eqBk _ _ _ _ _ _ ?_ ?_).mono ?_); (exact C_xx.out.below ((‹Below vi.heap.size vi y0a ∧ _›).1)); (exact ho_xe.rd); rintro e y0b ⟨rfl, hbq⟩))
      obtain ⟨hbr, -⟩ := ‹Below vi.heap.size vi y0b ∧ _›
      clear KEEP hbd g1_0 g3_0
      have HB9 := hid (HB8.out.trans (hbr.mono HB8.out.size))
      have HX9 := hid (HX8.out.below hbr)
      have R_x := hid (R_x.out.below hbr)
      have R_y := hid (R_y.out.below hbr)
      have C_xx := hid (C_xx.out.below hbr)
      have C_yx := hid (C_yx.out.below hbr)
      clear hbr
      clear ho_xe
      go_wp2_with fail
      have g0_0 := HX9.out.at 0 0 rfl rfl
      have g0_1 := HX9.out.at 0 1 rfl rfl
      have g0_2 := HX9.out.at 0 2 rfl rfl
      have g0_3 := HX9.out.at 0 3 rfl rfl
      have g0_4 := HX9.out.at 0 4 rfl rfl
      have g0_5 := HX9.out.at 0 5 rfl rfl
      have g0_6 := HX9.out.at 0 6 rfl rfl
      have g2_0 := HX9.out.at 2 0 rfl rfl
      have g2_1 := HX9.out.at 2 1 rfl rfl
      have g2_2 := HX9.out.at 2 2 rfl rfl
      have g2_3 := HX9.out.at 2 3 rfl rfl
      have g2_4 := HX9.out.at 2 4 rfl rfl
      have g2_5 := HX9.out.at 2 5 rfl rfl
      have g2_6 := HX9.out.at 2 6 rfl rfl
      simp only [World.size_alloc] at g2_0 g2_1 g2_2 g2_3 g2_4 g2_5 g2_6
      have hkeep : ∀ V V' : World, Below V.heap.size V V' → (Below y0b.heap.size y0b V ∧ V.cell? ⟨x1.heap.size, 0, none⟩ = some (.int .i64 ctk_y) ∧ V.cell? ⟨x1.heap.size, 1, none⟩ = some (.int .i64 ctv_y) ∧ V.cell? ⟨x1.heap.size, 2, none⟩ = some (.slice actds_yx ctds_y.length cctds_yx) ∧ V.cell? ⟨x1.heap.size, 3, none⟩ = some (.slice actks_yx ctks_y.length cctks_yx) ∧ V.cell? ⟨x1.heap.size, 4, none⟩ = some (.slice aces_yx ces_y.length cces_yx) ∧ V.cell? ⟨x1.heap.size, 5, none⟩ = some (.slice ass_yx ss_y.length css_yx) ∧ V.cell? ⟨x1.heap.size, 6, none⟩ = some (.slice ahs_yx hs_y.length chs_yx) ∧ V.cell? ⟨w.heap.size + 1, 0, none⟩ = some (.int .i64 ctk_y) ∧ V.cell? ⟨w.heap.size + 1, 1, none⟩ = some (.int .i64 ctv_y) ∧ V.cell? ⟨w.heap.size + 1, 2, none⟩ = some (.slice actds_y ctds_y.length cctds_y) ∧ V.cell? ⟨w.heap.size + 1, 3, none⟩ = some (.slice actks_y ctks_y.length cctks_y) ∧ V.cell? ⟨w.heap.size + 1, 4, none⟩ = some (.slice aces_y ces_y.length cces_y) ∧ V.cell? ⟨w.heap.size + 1, 5, none⟩ = some (.slice ass_y ss_y.length css_y) ∧ V.cell? ⟨w.heap.size + 1, 6, none⟩ = some (.slice ahs_y hs_y.length chs_y)) → (Below y0b.heap.size y0b V' ∧ V'.cell? ⟨x1.heap.size, 0, none⟩ = some (.int .i64 ctk_y) ∧ V'.cell? ⟨x1.heap.size, 1, none⟩ = some (.int .i64 ctv_y) ∧ V'.cell? ⟨x1.heap.size, 2, none⟩ = some (.slice actds_yx ctds_y.length cctds_yx) ∧ V'.cell? ⟨x1.heap.size, 3, none⟩ = some (.slice actks_yx ctks_y.length cctks_yx) ∧ V'.cell? ⟨x1.heap.size, 4, none⟩ = some (.slice aces_yx ces_y.length cces_yx) ∧ V'.cell? ⟨x1.heap.size, 5, none⟩ = some (.slice ass_yx ss_y.length css_yx) ∧ V'.cell? ⟨x1.heap.size, 6, none⟩ = some (.slice ahs_yx hs_y.length chs_yx) ∧ V'.cell? ⟨w.heap.size + 1, 0, none⟩ = some (.int .i64 ctk_y) ∧ V'.cell? ⟨w.heap.size + 1, 1, none⟩ = some (.int .i64 ctv_y) ∧ V'.cell? ⟨w.heap.size + 1, 2, none⟩ = some (.slice actds_y ctds_y.length cctds_y) ∧ V'.cell? ⟨w.heap.size + 1, 3, none⟩ = some (.slice actks_y ctks_y.length cctks_y) ∧ V'.cell? ⟨w.heap.size + 1, 4, none⟩ = some (.slice aces_y ces_y.length cces_y) ∧ V'.cell? ⟨w.heap.size + 1, 5, none⟩ = some (.slice ass_y ss_y.length css_y) ∧ V'.cell? ⟨w.heap.size + 1, 6, none⟩ = some (.slice ahs_y hs_y.length chs_y)) := fun V V' hb ⟨h, _⟩ =>
        have hb' := h.trans (hb.mono h.size)
        ⟨hb', (hb'.cell (p := ⟨_, 0, none⟩) (World.block_lt_of_cell? _ _ g0_0)).trans g0_0, (hb'.cell (p := ⟨_, 1, none⟩) (World.block_lt_of_cell? _ _ g0_1)).trans g0_1, (hb'.cell (p := ⟨_, 2, none⟩) (World.block_lt_of_cell? _ _ g0_2)).trans g0_2, (hb'.cell (p := ⟨_, 3, none⟩) (World.block_lt_of_cell? _ _ g0_3)).trans g0_3, (hb'.cell (p := ⟨_, 4, none⟩) (World.block_lt_of_cell? _ _ g0_4)).trans g0_4, (hb'.cell (p := ⟨_, 5, none⟩) (World.block_lt_of_cell? _ _ g0_5)).trans g0_5, (hb'.cell (p := ⟨_, 6, none⟩) (World.block_lt_of_cell? _ _ g0_6)).trans g0_6, (hb'.cell (p := ⟨_, 0, none⟩) (World.block_lt_of_cell? _ _ g2_0)).trans g2_0, (hb'.cell (p := ⟨_, 1, none⟩) (World.block_lt_of_cell? _ _ g2_1)).trans g2_1, (hb'.cell (p := ⟨_, 2, none⟩) (World.block_lt_of_cell? _ _ g2_2)).trans g2_2, (hb'.cell (p := ⟨_, 3, none⟩) (World.block_lt_of_cell? _ _ g2_3)).trans g2_3, (hb'.cell (p := ⟨_, 4, none⟩) (World.block_lt_of_cell? _ _ g2_4)).trans g2_4, (hb'.cell (p := ⟨_, 5, none⟩) (World.block_lt_of_cell? _ _ g2_5)).trans g2_5, (hb'.cell (p := ⟨_, 6, none⟩) (World.block_lt_of_cell? _ _ g2_6)).trans g2_6⟩
      have KEEP := hid hkeep
      clear hkeep
      have hbd : Below y0b.heap.size y0b y0b.drew := (Below.refl _ _).drew
      go_region_held3 (fun V => Below y0b.heap.size y0b V ∧ V.cell? ⟨x1.heap.size, 0, none⟩ = some (.int .i64 ctk_y) ∧ V.cell? ⟨x1.heap.size, 1, none⟩ = some (.int .i64 ctv_y) ∧ V.cell? ⟨x1.heap.size, 2, none⟩ = some (.slice actds_yx ctds_y.length cctds_yx) ∧ V.cell? ⟨x1.heap.size, 3, none⟩ = some (.slice actks_yx ctks_y.length cctks_yx) ∧ V.cell? ⟨x1.heap.size, 4, none⟩ = some (.slice aces_yx ces_y.length cces_yx) ∧ V.cell? ⟨x1.heap.size, 5, none⟩ = some (.slice ass_yx ss_y.length css_yx) ∧ V.cell? ⟨x1.heap.size, 6, none⟩ = some (.slice ahs_yx hs_y.length chs_yx) ∧ V.cell? ⟨w.heap.size + 1, 0, none⟩ = some (.int .i64 ctk_y) ∧ V.cell? ⟨w.heap.size + 1, 1, none⟩ = some (.int .i64 ctv_y) ∧ V.cell? ⟨w.heap.size + 1, 2, none⟩ = some (.slice actds_y ctds_y.length cctds_y) ∧ V.cell? ⟨w.heap.size + 1, 3, none⟩ = some (.slice actks_y ctks_y.length cctks_y) ∧ V.cell? ⟨w.heap.size + 1, 4, none⟩ = some (.slice aces_y ces_y.length cces_y) ∧ V.cell? ⟨w.heap.size + 1, 5, none⟩ = some (.slice ass_y ss_y.length css_y) ∧ V.cell? ⟨w.heap.size + 1, 6, none⟩ = some (.slice ahs_y hs_y.length chs_y))
        (first | exact KEEP.out _ _ hbq (by assumption) | go_keep)
        (first
          | (go_at_call 24; (with_reducible refine (toNe ctk_y ctv_y ctds_y ctks_y ces_y ss_y hs_y actds_y cctds_y actks_y cctks_y aces_y cces_y ass_y css_y ahs_y chs_y _ HM_y.out ?_).mono ?_); (exact R_y.out.below (‹Below y0b.heap.size y0b _ ∧ _›).1); rintro e y1a ⟨actds_ye, cctds_ye, actks_ye, cctks_ye, aces_ye, cces_ye, ass_ye, css_ye, ahs_ye, chs_ye, rfl, ho_ye, hbq⟩)
          | (go_at_call 15; (with_reducible refine (eqNe _ _ _ _ _ _ _ _ _ _ _ _ _ _ _ _ _ _ _ _ _ _ _ _ _ _ _ _ ?_ ?_).mono ?_); (exact C_yx.out.below ((‹Below y0b.heap.size y0b y1a ∧ _›).1)); (exact ho_ye.rd); rintro e y1b ⟨rfl, hbq⟩))
      obtain ⟨hbr, -⟩ := ‹Below y0b.heap.size y0b y1b ∧ _›
      clear KEEP hbd g0_0 g0_1 g0_2 g0_3 g0_4 g0_5 g0_6 g2_0 g2_1 g2_2 g2_3 g2_4 g2_5 g2_6
      have HB10 := hid (HB9.out.trans (hbr.mono HB9.out.size))
      have HX10 := hid (HX9.out.below hbr)
      have R_x := hid (R_x.out.below hbr)
      have R_y := hid (R_y.out.below hbr)
      have C_xx := hid (C_xx.out.below hbr)
      have C_yx := hid (C_yx.out.below hbr)
      clear hbr
      clear ho_ye
      go_wp2_with fail
      go_ret
      exact ⟨rfl, HB10.out⟩

set_option maxRecDepth 100000 in
theorem FnExactIsFinished_lifted (os : Os) (started : os.Started) (H : Type) (enc : TypeId × Value → H) :
    ReturnsInHanded {} Try.checked os 6 .any (Rows.fnExactIsFinishedSpec.pre6 enc Try.prog Try.f6 Rows.fnExactIsFinishedRow.domain false) (Rows.fnExactIsFinishedSpec.post enc Try.prog Try.f6 false true false false) := by
  refine law_lifted (C := Try.checked) (tb := 4) own started (by kernel_rfl) Try.func6 laidOut (by intro t ht; rw [Try.params6] at ht; simp at ht; rcases ht with rfl | rfl <;> exact ⟨by kernel_rfl, of_decide_eq_true (by kernel_rfl)⟩) rfl Try.underlying4 rfl ?_
    (ChangeSpec.witness6 (enc := enc) (C := Try.checked) false ⟨#[], #[.agg #[.slice none 0 0], .agg #[.int .i64 0, .int .i64 0, .slice none 0 0, .slice none 0 0, .slice none 0 0, .slice none 0 0, .slice none 0 0]], []⟩ 8 (by kernel_rfl) (by kernel_rfl) (by kernel_rfl) (by kernel_rfl)) ?_
  · intro ds hds
    rw [Try.params6] at hds
    match ds, hds with
    | [_, _], _ => exact ⟨rfl, rfl, rfl⟩
  intro W base args ds p hval0 hA0 hlt
  have hval : ∀ (j : Nat) t v, Try.f6.params[j]? = some t → args[j]? = some v → Value.okWide Try.prog W .any base t v := hval0
  have hA : DataW.TrodAll enc Try.prog W 0 (fun _ => true) true Try.f6.params.toList args.toList ds p := hA0
  rw [Try.params6] at hA hval
  clear hval0 hA0
  obtain ⟨v0, vs0, d0, ds0, p0, q0, hargs0, rfl, rfl, h0, r0⟩ := trodAll_cons hA
  obtain ⟨v1, vs1, d1, ds1, p1, q1, hargs1, rfl, rfl, h1, r1⟩ := trodAll_cons r0
  obtain ⟨rfl, rfl, rfl⟩ := trodAll_nil r1
  subst hargs1
  obtain rfl : args = #[v0, v1] := by cases args; simp_all
  obtain ⟨fs_x, afs_x, cfs_x, rfl, hr_x⟩ := arg_Bk (hval 0 27 v0 rfl rfl) h0
  obtain ⟨ctk_y, ctv_y, ctds_y, ctks_y, ces_y, ss_y, hs_y, actds_y, cctds_y, actks_y, cctks_y, aces_y, cces_y, ass_y, css_y, ahs_y, chs_y, rfl, hr_y⟩ := arg_Ne (hval 1 60 v1 rfl rfl) h1
  exact FnExactIsFinished_walk fs_x afs_x cfs_x ctk_y ctv_y ctds_y ctks_y ces_y ss_y hs_y actds_y cctds_y actks_y cctks_y aces_y cces_y ass_y css_y ahs_y chs_y W hr_x hr_y

theorem FnExactIsFinished_holds : Rows.FnExactIsFinishedSaid :=
  OpenClaim.holds_of_wide 6 Try.f6 rfl rfl rfl rfl rfl rfl rfl ⟨rfl, rfl, rfl, rfl, rfl⟩ rfl rfl rfl rfl rfl (by kernel_rfl) Try.func6 (by kernel_rfl)
    (of_decide_eq_true (by kernel_rfl)) (by unfold Func.isWrapper; first | (rw [if_pos (by decide +kernel)]; kernel_rfl) | (rw [if_neg (by decide +kernel)]; exact ⟨rfl, rfl⟩))
    (fun os started H enc _ => FnExactIsFinished_lifted os started H enc)
end Go.Proofs.Ytlbebnmhldolnaa
