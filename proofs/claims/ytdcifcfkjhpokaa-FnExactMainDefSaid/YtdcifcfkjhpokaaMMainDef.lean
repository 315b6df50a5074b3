/- FnExactMainDef: for every input. No condition. -/
import Derived.Test.YtdcifcfkjhpokaaMem
import Derived.Test.YtdcifcfkjhpokaaSc
import Derived.Test.YtdcifcfkjhpokaaDTy
import Derived.Test.YtdcifcfkjhpokaaDCon
import Derived.Test.YtdcifcfkjhpokaaDDat
import Derived.Test.YtdcifcfkjhpokaaDTm
import Derived.Test.YtdcifcfkjhpokaaDDf
import Derived.Test.YtdcifcfkjhpokaaDPg
import Derived.Test.YtdcifcfkjhpokaaSzTy
import Derived.Test.YtdcifcfkjhpokaaSzSc
import Derived.Lib.QuietBelow
import Derived.Test.YtdcifcfkjhpokaaSzDf
import Derived.Test.YtdcifcfkjhpokaaToTy
import Derived.Test.YtdcifcfkjhpokaaToSc
import Derived.Test.YtdcifcfkjhpokaaToDf
import Derived.Test.YtdcifcfkjhpokaaEqTy
import Derived.Test.YtdcifcfkjhpokaaEqSc
import Derived.Test.YtdcifcfkjhpokaaSzTm
import Derived.Test.YtdcifcfkjhpokaaPgOk
import Derived.Test.YtdcifcfkjhpokaaPgOkI
import Derived.Deep.RegionHeld3
namespace Go.Proofs.Ytdcifcfkjhpokaa
open Go.RowKit

def contigB (P : Program) : Nat → List Field → Nat → Bool
  | o, [], tot => o == tot
  | o, f :: fs, tot => f.offset == o && contigB P (o + P.cellsOf f.type) fs tot
/-- Types of plain data, closed in themselves. -/
def okTy (P : Program) (S : List TypeId) (t : TypeId) : Bool :=
  match P.underlying t with
  | some (.int k) => k == .i64
  | some .bool => true
  | some .string => true
  | some (.slice e) => S.contains e && decide (1 ≤ P.cellsOf e)
  | some (.struct fs) => fs.toList.all (fun f => S.contains f.type) && contigB P 0 fs.toList (P.cellsOf t)
  | _ => false

def TypedFs (r : TypeId → D → Prop) : List Field → List D → Prop
  | [], [] => True
  | f :: fs, d :: ds => r f.type d ∧ TypedFs r fs ds
  | _, _ => False
/-- The datum has the type's shape. -/
def Typed (P : Program) : Nat → TypeId → D → Prop
  | 0, _, _ => False
  | n + 1, t, d =>
    match P.underlying t with
    | some (.int _) => ∃ k, d = .int k
    | some .bool => ∃ b, d = .bool b
    | some .string => ∃ s, d = .str s
    | some (.slice e) => ∃ ds, d = .list ds ∧ ∀ x ∈ ds, Typed P n e x
    | some (.struct fs) => ∃ ds, d = .struct ds ∧ TypedFs (Typed P n) fs.toList ds
    | _ => False

theorem all_cells {w : World} {b o m : Nat} {len : Nat} {f : Nat → List Value} {ds : Nat → D} {Fs : Nat → List Nat}
    (h : ∀ i, i < len → (f i).length = m ∧ Cells w b (o + i * m) (f i) ∧ Rd w (ds i) (f i) (Fs i)) :
    ∃ xs F, xs.length = len * m ∧ Cells w b o xs ∧ RdAll w ((List.range len).map ds) xs F := by
  induction len with
  | zero => exact ⟨[], [], by simp, fun j v hj => by simp at hj, RdAll.nil⟩
  | succ len ih =>
    obtain ⟨xs, F, h0, h1, h2⟩ := ih fun i hi => h i (by omega)
    obtain ⟨k0, k1, k2⟩ := h len (by omega)
    refine ⟨xs ++ f len, F ++ Fs len, by rw [List.length_append, h0, k0, Nat.succ_mul], fun j v hj => ?_, ?_⟩
    · by_cases hl : j < xs.length
      · rw [List.getElem?_append_left hl] at hj; exact h1 j v hj
      · rw [List.getElem?_append_right (by omega)] at hj
        have := k1 _ v hj
        rw [h0] at this hl
        rw [show o + j = o + len * m + (j - len * m) by omega]; exact this
    · rw [List.range_succ, List.map_append]
      exact h2.append (RdAll.one k2)

section
variable {H : Type} {enc : TypeId × Value → H} {P : Program} {w : World} {S : List TypeId}

theorem struct_rd {n : Nat} {r : TypeId → List Value → Option (DataW H × List MemPlace)} {cs : List Value}
    (ih : ∀ t cs x, t ∈ S → r t cs = some x → cs.length = P.cellsOf t ∧ ∃ d F, Rd w d cs F ∧ Typed P n t d) :
    ∀ (fs : List Field) (o : Nat) (xs : List (DataW H × List MemPlace)), (∀ f ∈ fs, f.type ∈ S) → contigB P o fs cs.length = true →
      (∀ (i : Nat) (f : Field), fs[i]? = some f → r f.type ((cs.drop f.offset).take (P.cellsOf f.type)) = xs[i]?) → xs.length = fs.length →
      ∃ ds F, RdAll w ds (cs.drop o) F ∧ TypedFs (Typed P n) fs ds
  | [], o, xs, _, hc, _, _ => by
    simp only [contigB, beq_iff_eq] at hc
    exact ⟨[], [], by rw [hc, List.drop_length]; exact RdAll.nil, trivial⟩
  | f :: fs, o, xs, hS, hc, hx, hl => by
    simp only [contigB, Bool.and_eq_true, beq_iff_eq] at hc
    obtain ⟨rfl, hc⟩ := hc
    match xs, hl with
    | x :: xs, hl =>
      have h0 := hx 0 f rfl
      simp only [List.getElem?_cons_zero] at h0
      obtain ⟨k0, d, F, k1, k2⟩ := ih _ _ _ (hS f (by simp)) h0
      obtain ⟨ds, G, k3, k4⟩ := struct_rd ih fs (f.offset + P.cellsOf f.type) xs (fun g hg => hS g (by simp [hg])) hc (fun i g hg => by have := hx (i + 1) g (by simpa using hg); simpa using this) (by simpa using hl)
      refine ⟨d :: ds, F ++ G, ?_, k2, k4⟩
      have e : cs.drop f.offset = (cs.drop f.offset).take (P.cellsOf f.type) ++ cs.drop (f.offset + P.cellsOf f.type) := by
        rw [← List.drop_drop, List.take_append_drop]
      rw [e]
      exact RdAll.cons k1 k3

theorem trod_rd (hS : S.all (okTy P S) = true) (hcell : S.all (fun t => match P.underlying t with | some (.int _) => P.cellsOf t == 1 | some .bool => P.cellsOf t == 1 | some .string => P.cellsOf t == 1 | some (.slice _) => P.cellsOf t == 1 | _ => true) = true) :
    ∀ (fuel : Nat) (t : TypeId) (cs : List Value) (x : DataW H × List MemPlace), t ∈ S → DataW.trod enc P w 0 (fun _ => true) true fuel t cs = some x → cs.length = P.cellsOf t ∧ ∃ d F, Rd w d cs F ∧ Typed P fuel t d := by
  intro fuel
  induction fuel with
  | zero => intro t cs x _ h; simp [DataW.trod] at h
  | succ n ih =>
    intro t cs x ht h
    have hok := List.all_eq_true.1 hS t ht
    have hce := List.all_eq_true.1 hcell t ht
    unfold okTy at hok
    split at hok
    · rename_i k hu
      obtain rfl : k = .i64 := by simpa using hok
      obtain ⟨m, rfl, rfl, hwf⟩ := DataW.trod_int hu h
      simp only [hu, beq_iff_eq] at hce
      refine ⟨by simp [hce], .int m, [], ?_, by unfold Typed; rw [hu]; exact ⟨m, rfl⟩⟩
      have := hwf
      simp [Lit.wf, IntKind.min, IntKind.max, IntKind.bits, IntKind.signed] at this
      exact Rd.int_mk (by omega) (by omega)
    · rename_i hu
      obtain ⟨b, rfl, rfl⟩ := DataW.trod_bool hu h
      simp only [hu, beq_iff_eq] at hce
      exact ⟨by simp [hce], .bool b, [], Rd.bool_mk, by unfold Typed; rw [hu]; exact ⟨b, rfl⟩⟩
    · rename_i hu
      obtain ⟨s, rfl, rfl, hs⟩ := DataW.trod_string hu h
      simp only [hu, beq_iff_eq] at hce
      exact ⟨by simp [hce], .str s, [], Rd.str_mk (by unfold maxLen at hs; omega), by unfold Typed; rw [hu]; exact ⟨s, rfl⟩⟩
    · rename_i e hu
      simp only [hu, beq_iff_eq] at hce
      simp only [Bool.and_eq_true, decide_eq_true_eq] at hok
      have heS : e ∈ S := by simpa using hok.1
      rcases DataW.trod_slice hu h with ⟨rfl, rfl⟩ | ⟨a, len, cap, elems, rest, m, hm, rfl, rfl, hb, hl, hc, hel, hg, _, _⟩
      · exact ⟨by simp [hce], .list [], [], Rd.nil_mk (by omega), by unfold Typed; rw [hu]; exact ⟨[], rfl, fun x hx => by simp at hx⟩⟩
      · obtain rfl : n = m := by omega
        have key : ∀ i, i < len → ∃ c d F, w.cells? 0 (a.add (i * P.cellsOf e)) (P.cellsOf e) = some c ∧ Rd w d c F ∧ Typed P n e d := fun i hi => by
          have h1 := hg i hi
          rw [List.getElem?_eq_getElem (by omega)] at h1
          obtain ⟨c, k1, k2⟩ := Option.bind_eq_some_iff.1 h1
          obtain ⟨_, d, F, k3, k4⟩ := ih e c _ heS k2
          exact ⟨c, d, F, k1, k3, k4⟩
        have hcap : cap ≤ 9223372036854775807 := by unfold maxLen at hc; omega
        refine ⟨by simp [hce], ?_⟩
        by_cases h0 : len = 0
        · subst h0
          exact ⟨.list [], [], Rd.nil_mk hcap, by unfold Typed; rw [hu]; exact ⟨[], rfl, fun x hx => by simp at hx⟩⟩
        · classical
          have key' : ∀ i, ∃ p : List Value × D × List Nat, i < len → w.cells? 0 (a.add (i * P.cellsOf e)) (P.cellsOf e) = some p.1 ∧ Rd w p.2.1 p.1 p.2.2 ∧ Typed P n e p.2.1 := fun i => by
            by_cases hi : i < len
            · obtain ⟨c, d, F, k⟩ := key i hi; exact ⟨(c, d, F), fun _ => k⟩
            · exact ⟨([], .int 0, []), fun h => absurd h hi⟩
          obtain ⟨f, hf⟩ := Classical.skolem.1 key'
          have hspot : a.spot = none := by
            obtain ⟨_, q2, q3⟩ := World.cells?_some (hf 0 (by omega)).1
            have := q3 0 (by omega)
            rw [Nat.zero_mul] at this
            have hlt : 0 < (f 0).1.length := by rw [q2]; omega
            rw [List.getElem?_eq_getElem hlt] at this
            simp only [Addr.add, if_pos] at this
            unfold World.cell? at this
            split at this
            · split at this
              · cases this
              · rename_i hsp; simpa using hsp
            · cases this
          obtain ⟨blk, off, spot⟩ := a
          obtain rfl : spot = none := hspot
          have hadd : ∀ b o j : Nat, (Addr.mk b o none).add j = ⟨b, o + j, none⟩ := fun b o j => by
            unfold Addr.add
            split
            · rename_i hj; subst hj; rfl
            · rfl
          have hcells : ∀ i, i < len → (f i).1.length = P.cellsOf e ∧ Cells w blk (off + i * P.cellsOf e) (f i).1 ∧ Rd w (f i).2.1 (f i).1 (f i).2.2 := fun i hi => by
            obtain ⟨q1, q2, q3⟩ := World.cells?_some (hf i hi).1
            refine ⟨q2, fun j v hj => ?_, (hf i hi).2.1⟩
            have hjl : j < P.cellsOf e := by rw [← q2]; exact (List.getElem?_eq_some_iff.1 hj).1
            have := q3 j hjl
            rw [hadd, hadd, hj] at this
            exact this
          obtain ⟨xs, F, g0, g1, g2⟩ := all_cells hcells
          have hblk : blk < w.heap.size := by
            obtain ⟨v, hv⟩ : ∃ v, xs[0]? = some v := ⟨_, List.getElem?_eq_getElem (by rw [g0]; exact Nat.mul_pos (by omega) (by omega))⟩
            exact block_lt_of_cell (g1 0 v hv)
          refine ⟨.list ((List.range len).map fun i => (f i).2.1), blk :: F, ?_, by unfold Typed; rw [hu]; exact ⟨_, rfl, fun x hx => by obtain ⟨i, hi, rfl⟩ := List.mem_map.1 hx; exact (hf i (by simpa using hi)).2.2⟩⟩
          have := Rd.list_mk (w := w) (ds := (List.range len).map fun i => (f i).2.1) (b := blk) (o := off) (cap := cap) (xs := xs) (F := F) (by simp; exact h0) (by simpa using hl) hcap hblk g1 g2
          simpa using this
    · rename_i fs hu
      simp only [Bool.and_eq_true] at hok
      obtain ⟨xs, m, hm, rfl, hl, hxl, hx⟩ := DataW.trod_struct hu h
      obtain rfl : n = m := by omega
      obtain ⟨ds, F, k1, k2⟩ := struct_rd (P := P) (w := w) (S := S) (n := n) (cs := cs) ih fs.toList 0 xs (fun f hf => by have := List.all_eq_true.1 hok.1 f hf; simpa using this) (by rw [hl]; exact hok.2) (fun i f hf => hx i f (by simpa using hf)) (by simpa using hxl)
      exact ⟨hl, .struct ds, F, Rd.struct_mk (by simpa using k1), by unfold Typed; rw [hu]; exact ⟨ds, rfl, k2⟩⟩
    · cases hok
end
end Go.Proofs.Ytdcifcfkjhpokaa

namespace Go.Proofs.Ytdcifcfkjhpokaa
open Go.ChangeShapes Go.WideShapes Go.ChangeAt Go.RowKit
set_option linter.unusedVariables false

set_option maxRecDepth 100000 in
theorem typed_In : ∀ (n : Nat) (d : D), Typed Try.prog n 2 d → ∃ t : Int, d = In.d t
  | 0, _, h => by simp [Typed] at h
  | n + 1, d, h => by
    unfold Typed at h
    rw [Try.underlying2] at h
    exact h
set_option maxRecDepth 100000 in
theorem typed_Ins : ∀ (n : Nat) (d : D), Typed Try.prog n 48 d → ∃ ts : List Int, d = .list (In.ds ts)
  | 0, _, h => by simp [Typed] at h
  | n + 1, d, h => by
    unfold Typed at h
    rw [Try.underlying48] at h
    obtain ⟨ds, rfl, h⟩ := h
    have key : ∀ ds : List D, (∀ x ∈ ds, Typed Try.prog n 2 x) → ∃ ts, ds = In.ds ts := by
      intro ds
      induction ds with
      | nil => exact fun _ => ⟨[], rfl⟩
      | cons x xs ih =>
        intro hx
        obtain ⟨t, ht⟩ := typed_In n x (hx x (by simp))
        obtain ⟨ts, hts⟩ := ih fun y hy => hx y (by simp [hy])
        exact ⟨t :: ts, by rw [ht, hts]; rfl⟩
    obtain ⟨ts, rfl⟩ := key ds h
    exact ⟨ts, rfl⟩
set_option maxRecDepth 100000 in
theorem typed_Sr : ∀ (n : Nat) (d : D), Typed Try.prog n 9 d → ∃ t : ByteArray, d = Sr.d t
  | 0, _, h => by simp [Typed] at h
  | n + 1, d, h => by
    unfold Typed at h
    rw [Try.underlying9] at h
    exact h
set_option maxRecDepth 100000 in
theorem typed_Srs : ∀ (n : Nat) (d : D), Typed Try.prog n 25 d → ∃ ts : List ByteArray, d = .list (Sr.ds ts)
  | 0, _, h => by simp [Typed] at h
  | n + 1, d, h => by
    unfold Typed at h
    rw [Try.underlying25] at h
    obtain ⟨ds, rfl, h⟩ := h
    have key : ∀ ds : List D, (∀ x ∈ ds, Typed Try.prog n 9 x) → ∃ ts, ds = Sr.ds ts := by
      intro ds
      induction ds with
      | nil => exact fun _ => ⟨[], rfl⟩
      | cons x xs ih =>
        intro hx
        obtain ⟨t, ht⟩ := typed_Sr n x (hx x (by simp))
        obtain ⟨ts, hts⟩ := ih fun y hy => hx y (by simp [hy])
        exact ⟨t :: ts, by rw [ht, hts]; rfl⟩
    obtain ⟨ts, rfl⟩ := key ds h
    exact ⟨ts, rfl⟩
set_option maxRecDepth 100000 in
theorem typed_Bo : ∀ (n : Nat) (d : D), Typed Try.prog n 4 d → ∃ t : Bool, d = Bo.d t
  | 0, _, h => by simp [Typed] at h
  | n + 1, d, h => by
    unfold Typed at h
    rw [Try.underlying4] at h
    exact h
end Go.Proofs.Ytdcifcfkjhpokaa

namespace Go.Proofs.Ytdcifcfkjhpokaa
open Go.ChangeShapes Go.WideShapes Go.ChangeAt Go.RowKit
set_option linter.unusedVariables false

set_option maxRecDepth 100000 in
mutual
theorem typed_Ty : ∀ (n : Nat) (d : D), Typed Try.prog n 24 d → ∃ t : Ty, d = Ty.d t
  | 0, _, h => by simp [Typed] at h
  | n + 1, d, h => by
    unfold Typed at h
    rw [Try.underlying24] at h
    obtain ⟨ds, rfl, h⟩ := h
    match ds, h with
    | [d0, d1, d2], ⟨h0, h1, h2, _⟩ =>
      match n, h0, h1, h2 with
      | n + 1, h0, h1, h2 =>
        unfold Typed at h0
        rw [Try.underlying2] at h0
        obtain ⟨x0, rfl⟩ := h0
        unfold Typed at h1
        rw [Try.underlying9] at h1
        obtain ⟨x1, rfl⟩ := h1
        obtain ⟨x2, rfl⟩ := typed_Tys (n + 1) d2 h2
        exact ⟨.mk x0 x1 x2, rfl⟩
theorem typed_Tys : ∀ (n : Nat) (d : D), Typed Try.prog n 22 d → ∃ ts : List Ty, d = .list (Ty.ds ts)
  | 0, _, h => by simp [Typed] at h
  | n + 1, d, h => by
    unfold Typed at h
    rw [Try.underlying22] at h
    obtain ⟨ds, rfl, h⟩ := h
    have key : ∀ ds : List D, (∀ x ∈ ds, Typed Try.prog n 24 x) → ∃ ts, ds = Ty.ds ts := by
      intro ds
      induction ds with
      | nil => exact fun _ => ⟨[], rfl⟩
      | cons x xs ih =>
        intro hx
        obtain ⟨t, ht⟩ := typed_Ty n x (hx x (by simp))
        obtain ⟨ts, hts⟩ := ih fun y hy => hx y (by simp [hy])
        exact ⟨t :: ts, by rw [ht, hts]; rfl⟩
    obtain ⟨ts, rfl⟩ := key ds h
    exact ⟨ts, rfl⟩
end

def tidsTy : List TypeId := [24, 2, 9, 22]
theorem tidsTy_ok : tidsTy.all (okTy Try.prog tidsTy) = true := by kernel_rfl -- 24
theorem tidsTy_cells : tidsTy.all (fun t => match Try.prog.underlying t with | some (.int _) => Try.prog.cellsOf t == 1 | some .bool => Try.prog.cellsOf t == 1 | some .string => Try.prog.cellsOf t == 1 | some (.slice _) => Try.prog.cellsOf t == 1 | _ => true) = true := by kernel_rfl -- 24
set_option maxRecDepth 100000 in
/-- Handed in. -/
theorem arg_Ty {H : Type} {enc : TypeId × Value → H} {W : World} {base : Nat} {vv : Value} {d : DataW H} {p : List MemPlace} (hv : Value.okWide Try.prog W .any base 24 vv)
    (h : DataW.Trod enc Try.prog W 0 (fun _ => true) true 24 vv d p) : ∃ (k : Int) (n : ByteArray) (ks : List Ty) (aks : Option Addr) (cks : Nat), vv = .agg #[.int .i64 k, .string n, .slice aks ks.length cks] ∧ RdS W (Ty.d (Ty.mk k n ks)) [.int .i64 k, .string n, .slice aks ks.length cks] := by
  obtain ⟨cs, rfl, _⟩ := okWide_struct Try.underlying24 hv
  obtain ⟨fuel, hf⟩ := h
  obtain ⟨_, d', F, h1, h2⟩ := trod_rd tidsTy_ok tidsTy_cells fuel _ _ _ (by simp [tidsTy]) hf
  obtain ⟨⟨k, n, ks⟩, rfl⟩ := typed_Ty _ _ h2
  obtain ⟨aks, cks, hc, -⟩ := h1.Ty_inv
  rw [hc] at h1
  refine ⟨k, n, ks, aks, cks, ?_, ⟨F, h1⟩⟩
  have : cs = #[.int .i64 k, .string n, .slice aks ks.length cks] := by
    apply Array.toList_inj.1
    simpa [Value.cells] using hc
  rw [this]
def tidsTys : List TypeId := [22, 24, 2, 9]
theorem tidsTys_ok : tidsTys.all (okTy Try.prog tidsTys) = true := by kernel_rfl -- 22
theorem tidsTys_cells : tidsTys.all (fun t => match Try.prog.underlying t with | some (.int _) => Try.prog.cellsOf t == 1 | some .bool => Try.prog.cellsOf t == 1 | some .string => Try.prog.cellsOf t == 1 | some (.slice _) => Try.prog.cellsOf t == 1 | _ => true) = true := by kernel_rfl -- 22
set_option maxRecDepth 100000 in
/-- Handed in. -/
theorem arg_Tys {H : Type} {enc : TypeId × Value → H} {W : World} {base : Nat} {vv : Value} {d : DataW H} {p : List MemPlace} (hv : Value.okWide Try.prog W .any base 22 vv)
    (h : DataW.Trod enc Try.prog W 0 (fun _ => true) true 22 vv d p) : ∃ (ts : List Ty) (a : Option Addr) (c : Nat), vv = .slice a ts.length c ∧ RdL W (Ty.ds ts) (.slice a ts.length c) := by
  obtain ⟨_, _, _, rfl⟩ := okWide_slice Try.underlying22 hv
  obtain ⟨fuel, hf⟩ := h
  obtain ⟨_, d', F, h1, h2⟩ := trod_rd tidsTys_ok tidsTys_cells fuel _ _ _ (by simp [tidsTys]) hf
  obtain ⟨ts, rfl⟩ := typed_Tys _ _ h2
  obtain ⟨a, cap, hc, -⟩ := h1.list_inv
  rw [Ty.ds_length] at hc
  simp only [Value.cells, List.cons.injEq, and_true] at hc
  rw [hc] at h1 ⊢
  exact ⟨ts, a, cap, rfl, F, h1⟩

end Go.Proofs.Ytdcifcfkjhpokaa

namespace Go.Proofs.Ytdcifcfkjhpokaa
open Go.ChangeShapes Go.WideShapes Go.ChangeAt Go.RowKit
set_option linter.unusedVariables false

set_option maxRecDepth 100000 in
theorem typed_Con : ∀ (n : Nat) (d : D), Typed Try.prog n 170 d → ∃ t : Con, d = Con.d t
  | 0, _, h => by simp [Typed] at h
  | n + 1, d, h => by
    unfold Typed at h
    rw [Try.underlying170] at h
    obtain ⟨ds, rfl, h⟩ := h
    match ds, h with
    | [d0, d1], ⟨h0, h1, _⟩ =>
      match n, h0, h1 with
      | n + 1, h0, h1 =>
        unfold Typed at h0
        rw [Try.underlying9] at h0
        obtain ⟨x0, rfl⟩ := h0
        obtain ⟨x1, rfl⟩ := typed_Tys (n + 1) d1 h1
        exact ⟨.mk x0 x1, rfl⟩
set_option maxRecDepth 100000 in
theorem typed_Cons : ∀ (n : Nat) (d : D), Typed Try.prog n 133 d → ∃ ts : List Con, d = .list (Con.ds ts)
  | 0, _, h => by simp [Typed] at h
  | n + 1, d, h => by
    unfold Typed at h
    rw [Try.underlying133] at h
    obtain ⟨ds, rfl, h⟩ := h
    have key : ∀ ds : List D, (∀ x ∈ ds, Typed Try.prog n 170 x) → ∃ ts, ds = Con.ds ts := by
      intro ds
      induction ds with
      | nil => exact fun _ => ⟨[], rfl⟩
      | cons x xs ih =>
        intro hx
        obtain ⟨t, ht⟩ := typed_Con n x (hx x (by simp))
        obtain ⟨ts, hts⟩ := ih fun y hy => hx y (by simp [hy])
        exact ⟨t :: ts, by rw [ht, hts]; rfl⟩
    obtain ⟨ts, rfl⟩ := key ds h
    exact ⟨ts, rfl⟩

def tidsCon : List TypeId := [170, 9, 22, 24, 2]
theorem tidsCon_ok : tidsCon.all (okTy Try.prog tidsCon) = true := by kernel_rfl -- 170
theorem tidsCon_cells : tidsCon.all (fun t => match Try.prog.underlying t with | some (.int _) => Try.prog.cellsOf t == 1 | some .bool => Try.prog.cellsOf t == 1 | some .string => Try.prog.cellsOf t == 1 | some (.slice _) => Try.prog.cellsOf t == 1 | _ => true) = true := by kernel_rfl -- 170
set_option maxRecDepth 100000 in
/-- Handed in. -/
theorem arg_Con {H : Type} {enc : TypeId × Value → H} {W : World} {base : Nat} {vv : Value} {d : DataW H} {p : List MemPlace} (hv : Value.okWide Try.prog W .any base 170 vv)
    (h : DataW.Trod enc Try.prog W 0 (fun _ => true) true 170 vv d p) : ∃ (n : ByteArray) (fs : List Ty) (afs : Option Addr) (cfs : Nat), vv = .agg #[.string n, .slice afs fs.length cfs] ∧ RdS W (Con.d (Con.mk n fs)) [.string n, .slice afs fs.length cfs] := by
  obtain ⟨cs, rfl, _⟩ := okWide_struct Try.underlying170 hv
  obtain ⟨fuel, hf⟩ := h
  obtain ⟨_, d', F, h1, h2⟩ := trod_rd tidsCon_ok tidsCon_cells fuel _ _ _ (by simp [tidsCon]) hf
  obtain ⟨⟨n, fs⟩, rfl⟩ := typed_Con _ _ h2
  obtain ⟨afs, cfs, hc, -⟩ := h1.Con_inv
  rw [hc] at h1
  refine ⟨n, fs, afs, cfs, ?_, ⟨F, h1⟩⟩
  have : cs = #[.string n, .slice afs fs.length cfs] := by
    apply Array.toList_inj.1
    simpa [Value.cells] using hc
  rw [this]
def tidsCons : List TypeId := [133, 170, 9, 22, 24, 2]
theorem tidsCons_ok : tidsCons.all (okTy Try.prog tidsCons) = true := by kernel_rfl -- 133
theorem tidsCons_cells : tidsCons.all (fun t => match Try.prog.underlying t with | some (.int _) => Try.prog.cellsOf t == 1 | some .bool => Try.prog.cellsOf t == 1 | some .string => Try.prog.cellsOf t == 1 | some (.slice _) => Try.prog.cellsOf t == 1 | _ => true) = true := by kernel_rfl -- 133
set_option maxRecDepth 100000 in
/-- Handed in. -/
theorem arg_Cons {H : Type} {enc : TypeId × Value → H} {W : World} {base : Nat} {vv : Value} {d : DataW H} {p : List MemPlace} (hv : Value.okWide Try.prog W .any base 133 vv)
    (h : DataW.Trod enc Try.prog W 0 (fun _ => true) true 133 vv d p) : ∃ (ts : List Con) (a : Option Addr) (c : Nat), vv = .slice a ts.length c ∧ RdL W (Con.ds ts) (.slice a ts.length c) := by
  obtain ⟨_, _, _, rfl⟩ := okWide_slice Try.underlying133 hv
  obtain ⟨fuel, hf⟩ := h
  obtain ⟨_, d', F, h1, h2⟩ := trod_rd tidsCons_ok tidsCons_cells fuel _ _ _ (by simp [tidsCons]) hf
  obtain ⟨ts, rfl⟩ := typed_Cons _ _ h2
  obtain ⟨a, cap, hc, -⟩ := h1.list_inv
  rw [Con.ds_length] at hc
  simp only [Value.cells, List.cons.injEq, and_true] at hc
  rw [hc] at h1 ⊢
  exact ⟨ts, a, cap, rfl, F, h1⟩

end Go.Proofs.Ytdcifcfkjhpokaa

namespace Go.Proofs.Ytdcifcfkjhpokaa
open Go.ChangeShapes Go.WideShapes Go.ChangeAt Go.RowKit
set_option linter.unusedVariables false

set_option maxRecDepth 100000 in
theorem typed_Dat : ∀ (n : Nat) (d : D), Typed Try.prog n 135 d → ∃ t : Dat, d = Dat.d t
  | 0, _, h => by simp [Typed] at h
  | n + 1, d, h => by
    unfold Typed at h
    rw [Try.underlying135] at h
    obtain ⟨ds, rfl, h⟩ := h
    match ds, h with
    | [d0, d1], ⟨h0, h1, _⟩ =>
      match n, h0, h1 with
      | n + 1, h0, h1 =>
        unfold Typed at h0
        rw [Try.underlying9] at h0
        obtain ⟨x0, rfl⟩ := h0
        obtain ⟨x1, rfl⟩ := typed_Cons (n + 1) d1 h1
        exact ⟨.mk x0 x1, rfl⟩
set_option maxRecDepth 100000 in
theorem typed_Dats : ∀ (n : Nat) (d : D), Typed Try.prog n 52 d → ∃ ts : List Dat, d = .list (Dat.ds ts)
  | 0, _, h => by simp [Typed] at h
  | n + 1, d, h => by
    unfold Typed at h
    rw [Try.underlying52] at h
    obtain ⟨ds, rfl, h⟩ := h
    have key : ∀ ds : List D, (∀ x ∈ ds, Typed Try.prog n 135 x) → ∃ ts, ds = Dat.ds ts := by
      intro ds
      induction ds with
      | nil => exact fun _ => ⟨[], rfl⟩
      | cons x xs ih =>
        intro hx
        obtain ⟨t, ht⟩ := typed_Dat n x (hx x (by simp))
        obtain ⟨ts, hts⟩ := ih fun y hy => hx y (by simp [hy])
        exact ⟨t :: ts, by rw [ht, hts]; rfl⟩
    obtain ⟨ts, rfl⟩ := key ds h
    exact ⟨ts, rfl⟩

def tidsDat : List TypeId := [135, 9, 133, 170, 22, 24, 2]
theorem tidsDat_ok : tidsDat.all (okTy Try.prog tidsDat) = true := by kernel_rfl -- 135
theorem tidsDat_cells : tidsDat.all (fun t => match Try.prog.underlying t with | some (.int _) => Try.prog.cellsOf t == 1 | some .bool => Try.prog.cellsOf t == 1 | some .string => Try.prog.cellsOf t == 1 | some (.slice _) => Try.prog.cellsOf t == 1 | _ => true) = true := by kernel_rfl -- 135
set_option maxRecDepth 100000 in
/-- Handed in. -/
theorem arg_Dat {H : Type} {enc : TypeId × Value → H} {W : World} {base : Nat} {vv : Value} {d : DataW H} {p : List MemPlace} (hv : Value.okWide Try.prog W .any base 135 vv)
    (h : DataW.Trod enc Try.prog W 0 (fun _ => true) true 135 vv d p) : ∃ (n : ByteArray) (qs : List Con) (aqs : Option Addr) (cqs : Nat), vv = .agg #[.string n, .slice aqs qs.length cqs] ∧ RdS W (Dat.d (Dat.mk n qs)) [.string n, .slice aqs qs.length cqs] := by
  obtain ⟨cs, rfl, _⟩ := okWide_struct Try.underlying135 hv
  obtain ⟨fuel, hf⟩ := h
  obtain ⟨_, d', F, h1, h2⟩ := trod_rd tidsDat_ok tidsDat_cells fuel _ _ _ (by simp [tidsDat]) hf
  obtain ⟨⟨n, qs⟩, rfl⟩ := typed_Dat _ _ h2
  obtain ⟨aqs, cqs, hc, -⟩ := h1.Dat_inv
  rw [hc] at h1
  refine ⟨n, qs, aqs, cqs, ?_, ⟨F, h1⟩⟩
  have : cs = #[.string n, .slice aqs qs.length cqs] := by
    apply Array.toList_inj.1
    simpa [Value.cells] using hc
  rw [this]
def tidsDats : List TypeId := [52, 135, 9, 133, 170, 22, 24, 2]
theorem tidsDats_ok : tidsDats.all (okTy Try.prog tidsDats) = true := by kernel_rfl -- 52
theorem tidsDats_cells : tidsDats.all (fun t => match Try.prog.underlying t with | some (.int _) => Try.prog.cellsOf t == 1 | some .bool => Try.prog.cellsOf t == 1 | some .string => Try.prog.cellsOf t == 1 | some (.slice _) => Try.prog.cellsOf t == 1 | _ => true) = true := by kernel_rfl -- 52
set_option maxRecDepth 100000 in
/-- Handed in. -/
theorem arg_Dats {H : Type} {enc : TypeId × Value → H} {W : World} {base : Nat} {vv : Value} {d : DataW H} {p : List MemPlace} (hv : Value.okWide Try.prog W .any base 52 vv)
    (h : DataW.Trod enc Try.prog W 0 (fun _ => true) true 52 vv d p) : ∃ (ts : List Dat) (a : Option Addr) (c : Nat), vv = .slice a ts.length c ∧ RdL W (Dat.ds ts) (.slice a ts.length c) := by
  obtain ⟨_, _, _, rfl⟩ := okWide_slice Try.underlying52 hv
  obtain ⟨fuel, hf⟩ := h
  obtain ⟨_, d', F, h1, h2⟩ := trod_rd tidsDats_ok tidsDats_cells fuel _ _ _ (by simp [tidsDats]) hf
  obtain ⟨ts, rfl⟩ := typed_Dats _ _ h2
  obtain ⟨a, cap, hc, -⟩ := h1.list_inv
  rw [Dat.ds_length] at hc
  simp only [Value.cells, List.cons.injEq, and_true] at hc
  rw [hc] at h1 ⊢
  exact ⟨ts, a, cap, rfl, F, h1⟩

end Go.Proofs.Ytdcifcfkjhpokaa

namespace Go.Proofs.Ytdcifcfkjhpokaa
open Go.ChangeShapes Go.WideShapes Go.ChangeAt Go.RowKit
set_option linter.unusedVariables false

set_option maxRecDepth 100000 in
mutual
theorem typed_Tm : ∀ (n : Nat) (d : D), Typed Try.prog n 28 d → ∃ t : Tm, d = Tm.d t
  | 0, _, h => by simp [Typed] at h
  | n + 1, d, h => by
    unfold Typed at h
    rw [Try.underlying28] at h
    obtain ⟨ds, rfl, h⟩ := h
    match ds, h with
    | [d0, d1, d2, d3, d4, d5], ⟨h0, h1, h2, h3, h4, h5, _⟩ =>
      match n, h0, h1, h2, h3, h4, h5 with
      | n + 1, h0, h1, h2, h3, h4, h5 =>
        unfold Typed at h0
        rw [Try.underlying2] at h0
        obtain ⟨x0, rfl⟩ := h0
        unfold Typed at h1
        rw [Try.underlying2] at h1
        obtain ⟨x1, rfl⟩ := h1
        unfold Typed at h2
        rw [Try.underlying9] at h2
        obtain ⟨x2, rfl⟩ := h2
        obtain ⟨x3, rfl⟩ := typed_Ty (n + 1) d3 h3
        obtain ⟨x4, rfl⟩ := typed_Srs (n + 1) d4 h4
        obtain ⟨x5, rfl⟩ := typed_Tms (n + 1) d5 h5
        exact ⟨.mk x0 x1 x2 x3 x4 x5, rfl⟩
theorem typed_Tms : ∀ (n : Nat) (d : D), Typed Try.prog n 26 d → ∃ ts : List Tm, d = .list (Tm.ds ts)
  | 0, _, h => by simp [Typed] at h
  | n + 1, d, h => by
    unfold Typed at h
    rw [Try.underlying26] at h
    obtain ⟨ds, rfl, h⟩ := h
    have key : ∀ ds : List D, (∀ x ∈ ds, Typed Try.prog n 28 x) → ∃ ts, ds = Tm.ds ts := by
      intro ds
      induction ds with
      | nil => exact fun _ => ⟨[], rfl⟩
      | cons x xs ih =>
        intro hx
        obtain ⟨t, ht⟩ := typed_Tm n x (hx x (by simp))
        obtain ⟨ts, hts⟩ := ih fun y hy => hx y (by simp [hy])
        exact ⟨t :: ts, by rw [ht, hts]; rfl⟩
    obtain ⟨ts, rfl⟩ := key ds h
    exact ⟨ts, rfl⟩
end

def tidsTm : List TypeId := [28, 2, 9, 24, 22, 25, 26]
theorem tidsTm_ok : tidsTm.all (okTy Try.prog tidsTm) = true := by kernel_rfl -- 28
theorem tidsTm_cells : tidsTm.all (fun t => match Try.prog.underlying t with | some (.int _) => Try.prog.cellsOf t == 1 | some .bool => Try.prog.cellsOf t == 1 | some .string => Try.prog.cellsOf t == 1 | some (.slice _) => Try.prog.cellsOf t == 1 | _ => true) = true := by kernel_rfl -- 28
set_option maxRecDepth 100000 in
/-- Handed in. -/
theorem arg_Tm {H : Type} {enc : TypeId × Value → H} {W : World} {base : Nat} {vv : Value} {d : DataW H} {p : List MemPlace} (hv : Value.okWide Try.prog W .any base 28 vv)
    (h : DataW.Trod enc Try.prog W 0 (fun _ => true) true 28 vv d p) : ∃ (k : Int) (u : Int) (n : ByteArray) (tk : Int) (tn : ByteArray) (tks : List Ty) (ns : List ByteArray) (ks : List Tm) (atks : Option Addr) (ctks : Nat) (ans : Option Addr) (cns : Nat) (aks : Option Addr) (cks : Nat), vv = .agg #[.int .i64 k, .int .i64 u, .string n, .int .i64 tk, .string tn, .slice atks tks.length ctks, .slice ans ns.length cns, .slice aks ks.length cks] ∧ RdS W (Tm.d (Tm.mk k u n (Ty.mk tk tn tks) ns ks)) [.int .i64 k, .int .i64 u, .string n, .int .i64 tk, .string tn, .slice atks tks.length ctks, .slice ans ns.length cns, .slice aks ks.length cks] := by
  obtain ⟨cs, rfl, _⟩ := okWide_struct Try.underlying28 hv
  obtain ⟨fuel, hf⟩ := h
  obtain ⟨_, d', F, h1, h2⟩ := trod_rd tidsTm_ok tidsTm_cells fuel _ _ _ (by simp [tidsTm]) hf
  obtain ⟨⟨k, u, n, ⟨tk, tn, tks⟩, ns, ks⟩, rfl⟩ := typed_Tm _ _ h2
  obtain ⟨atks, ctks, ans, cns, aks, cks, hc, -⟩ := h1.Tm_inv
  rw [hc] at h1
  refine ⟨k, u, n, tk, tn, tks, ns, ks, atks, ctks, ans, cns, aks, cks, ?_, ⟨F, h1⟩⟩
  have : cs = #[.int .i64 k, .int .i64 u, .string n, .int .i64 tk, .string tn, .slice atks tks.length ctks, .slice ans ns.length cns, .slice aks ks.length cks] := by
    apply Array.toList_inj.1
    simpa [Value.cells] using hc
  rw [this]
def tidsTms : List TypeId := [26, 28, 2, 9, 24, 22, 25]
theorem tidsTms_ok : tidsTms.all (okTy Try.prog tidsTms) = true := by kernel_rfl -- 26
theorem tidsTms_cells : tidsTms.all (fun t => match Try.prog.underlying t with | some (.int _) => Try.prog.cellsOf t == 1 | some .bool => Try.prog.cellsOf t == 1 | some .string => Try.prog.cellsOf t == 1 | some (.slice _) => Try.prog.cellsOf t == 1 | _ => true) = true := by kernel_rfl -- 26
set_option maxRecDepth 100000 in
/-- Handed in. -/
theorem arg_Tms {H : Type} {enc : TypeId × Value → H} {W : World} {base : Nat} {vv : Value} {d : DataW H} {p : List MemPlace} (hv : Value.okWide Try.prog W .any base 26 vv)
    (h : DataW.Trod enc Try.prog W 0 (fun _ => true) true 26 vv d p) : ∃ (ts : List Tm) (a : Option Addr) (c : Nat), vv = .slice a ts.length c ∧ RdL W (Tm.ds ts) (.slice a ts.length c) := by
  obtain ⟨_, _, _, rfl⟩ := okWide_slice Try.underlying26 hv
  obtain ⟨fuel, hf⟩ := h
  obtain ⟨_, d', F, h1, h2⟩ := trod_rd tidsTms_ok tidsTms_cells fuel _ _ _ (by simp [tidsTms]) hf
  obtain ⟨ts, rfl⟩ := typed_Tms _ _ h2
  obtain ⟨a, cap, hc, -⟩ := h1.list_inv
  rw [Tm.ds_length] at hc
  simp only [Value.cells, List.cons.injEq, and_true] at hc
  rw [hc] at h1 ⊢
  exact ⟨ts, a, cap, rfl, F, h1⟩

end Go.Proofs.Ytdcifcfkjhpokaa

namespace Go.Proofs.Ytdcifcfkjhpokaa
open Go.ChangeShapes Go.WideShapes Go.ChangeAt Go.RowKit
set_option linter.unusedVariables false

set_option maxRecDepth 100000 in
theorem typed_Df : ∀ (n : Nat) (d : D), Typed Try.prog n 138 d → ∃ t : Df, d = Df.d t
  | 0, _, h => by simp [Typed] at h
  | n + 1, d, h => by
    unfold Typed at h
    rw [Try.underlying138] at h
    obtain ⟨ds, rfl, h⟩ := h
    match ds, h with
    | [d0, d1, d2], ⟨h0, h1, h2, _⟩ =>
      match n, h0, h1, h2 with
      | n + 1, h0, h1, h2 =>
        unfold Typed at h0
        rw [Try.underlying9] at h0
        obtain ⟨x0, rfl⟩ := h0
        obtain ⟨x1, rfl⟩ := typed_Ty (n + 1) d1 h1
        obtain ⟨x2, rfl⟩ := typed_Tm (n + 1) d2 h2
        exact ⟨.mk x0 x1 x2, rfl⟩
set_option maxRecDepth 100000 in
theorem typed_Dfs : ∀ (n : Nat) (d : D), Typed Try.prog n 53 d → ∃ ts : List Df, d = .list (Df.ds ts)
  | 0, _, h => by simp [Typed] at h
  | n + 1, d, h => by
    unfold Typed at h
    rw [Try.underlying53] at h
    obtain ⟨ds, rfl, h⟩ := h
    have key : ∀ ds : List D, (∀ x ∈ ds, Typed Try.prog n 138 x) → ∃ ts, ds = Df.ds ts := by
      intro ds
      induction ds with
      | nil => exact fun _ => ⟨[], rfl⟩
      | cons x xs ih =>
        intro hx
        obtain ⟨t, ht⟩ := typed_Df n x (hx x (by simp))
        obtain ⟨ts, hts⟩ := ih fun y hy => hx y (by simp [hy])
        exact ⟨t :: ts, by rw [ht, hts]; rfl⟩
    obtain ⟨ts, rfl⟩ := key ds h
    exact ⟨ts, rfl⟩

def tidsDf : List TypeId := [138, 9, 24, 2, 22, 28, 25, 26]
theorem tidsDf_ok : tidsDf.all (okTy Try.prog tidsDf) = true := by kernel_rfl -- 138
theorem tidsDf_cells : tidsDf.all (fun t => match Try.prog.underlying t with | some (.int _) => Try.prog.cellsOf t == 1 | some .bool => Try.prog.cellsOf t == 1 | some .string => Try.prog.cellsOf t == 1 | some (.slice _) => Try.prog.cellsOf t == 1 | _ => true) = true := by kernel_rfl -- 138
set_option maxRecDepth 100000 in
/-- Handed in. -/
theorem arg_Df {H : Type} {enc : TypeId × Value → H} {W : World} {base : Nat} {vv : Value} {d : DataW H} {p : List MemPlace} (hv : Value.okWide Try.prog W .any base 138 vv)
    (h : DataW.Trod enc Try.prog W 0 (fun _ => true) true 138 vv d p) : ∃ (n : ByteArray) (tk : Int) (tn : ByteArray) (tks : List Ty) (bk : Int) (bu : Int) (bn : ByteArray) (btk : Int) (btn : ByteArray) (btks : List Ty) (bns : List ByteArray) (bks : List Tm) (atks : Option Addr) (ctks : Nat) (abtks : Option Addr) (cbtks : Nat) (abns : Option Addr) (cbns : Nat) (abks : Option Addr) (cbks : Nat), vv = .agg #[.string n, .int .i64 tk, .string tn, .slice atks tks.length ctks, .int .i64 bk, .int .i64 bu, .string bn, .int .i64 btk, .string btn, .slice abtks btks.length cbtks, .slice abns bns.length cbns, .slice abks bks.length cbks] ∧ RdS W (Df.d (Df.mk n (Ty.mk tk tn tks) (Tm.mk bk bu bn (Ty.mk btk btn btks) bns bks))) [.string n, .int .i64 tk, .string tn, .slice atks tks.length ctks, .int .i64 bk, .int .i64 bu, .string bn, .int .i64 btk, .string btn, .slice abtks btks.length cbtks, .slice abns bns.length cbns, .slice abks bks.length cbks] := by
  obtain ⟨cs, rfl, _⟩ := okWide_struct Try.underlying138 hv
  obtain ⟨fuel, hf⟩ := h
  obtain ⟨_, d', F, h1, h2⟩ := trod_rd tidsDf_ok tidsDf_cells fuel _ _ _ (by simp [tidsDf]) hf
  obtain ⟨⟨n, ⟨tk, tn, tks⟩, ⟨bk, bu, bn, ⟨btk, btn, btks⟩, bns, bks⟩⟩, rfl⟩ := typed_Df _ _ h2
  obtain ⟨atks, ctks, abtks, cbtks, abns, cbns, abks, cbks, hc, -⟩ := h1.Df_inv
  rw [hc] at h1
  refine ⟨n, tk, tn, tks, bk, bu, bn, btk, btn, btks, bns, bks, atks, ctks, abtks, cbtks, abns, cbns, abks, cbks, ?_, ⟨F, h1⟩⟩
  have : cs = #[.string n, .int .i64 tk, .string tn, .slice atks tks.length ctks, .int .i64 bk, .int .i64 bu, .string bn, .int .i64 btk, .string btn, .slice abtks btks.length cbtks, .slice abns bns.length cbns, .slice abks bks.length cbks] := by
    apply Array.toList_inj.1
    simpa [Value.cells] using hc
  rw [this]
def tidsDfs : List TypeId := [53, 138, 9, 24, 2, 22, 28, 25, 26]
theorem tidsDfs_ok : tidsDfs.all (okTy Try.prog tidsDfs) = true := by kernel_rfl -- 53
theorem tidsDfs_cells : tidsDfs.all (fun t => match Try.prog.underlying t with | some (.int _) => Try.prog.cellsOf t == 1 | some .bool => Try.prog.cellsOf t == 1 | some .string => Try.prog.cellsOf t == 1 | some (.slice _) => Try.prog.cellsOf t == 1 | _ => true) = true := by kernel_rfl -- 53
set_option maxRecDepth 100000 in
/-- Handed in. -/
theorem arg_Dfs {H : Type} {enc : TypeId × Value → H} {W : World} {base : Nat} {vv : Value} {d : DataW H} {p : List MemPlace} (hv : Value.okWide Try.prog W .any base 53 vv)
    (h : DataW.Trod enc Try.prog W 0 (fun _ => true) true 53 vv d p) : ∃ (ts : List Df) (a : Option Addr) (c : Nat), vv = .slice a ts.length c ∧ RdL W (Df.ds ts) (.slice a ts.length c) := by
  obtain ⟨_, _, _, rfl⟩ := okWide_slice Try.underlying53 hv
  obtain ⟨fuel, hf⟩ := h
  obtain ⟨_, d', F, h1, h2⟩ := trod_rd tidsDfs_ok tidsDfs_cells fuel _ _ _ (by simp [tidsDfs]) hf
  obtain ⟨ts, rfl⟩ := typed_Dfs _ _ h2
  obtain ⟨a, cap, hc, -⟩ := h1.list_inv
  rw [Df.ds_length] at hc
  simp only [Value.cells, List.cons.injEq, and_true] at hc
  rw [hc] at h1 ⊢
  exact ⟨ts, a, cap, rfl, F, h1⟩

end Go.Proofs.Ytdcifcfkjhpokaa

namespace Go.Proofs.Ytdcifcfkjhpokaa
open Go.ChangeShapes Go.WideShapes Go.ChangeAt Go.RowKit
set_option linter.unusedVariables false

set_option maxRecDepth 100000 in
theorem typed_Pg : ∀ (n : Nat) (d : D), Typed Try.prog n 55 d → ∃ t : Pg, d = Pg.d t
  | 0, _, h => by simp [Typed] at h
  | n + 1, d, h => by
    unfold Typed at h
    rw [Try.underlying55] at h
    obtain ⟨ds, rfl, h⟩ := h
    match ds, h with
    | [d0, d1], ⟨h0, h1, _⟩ =>
      match n, h0, h1 with
      | n + 1, h0, h1 =>
        obtain ⟨x0, rfl⟩ := typed_Dats (n + 1) d0 h0
        obtain ⟨x1, rfl⟩ := typed_Dfs (n + 1) d1 h1
        exact ⟨.mk x0 x1, rfl⟩
def tidsPg : List TypeId := [55, 52, 135, 9, 133, 170, 22, 24, 2, 53, 138, 28, 25, 26]
theorem tidsPg_ok : tidsPg.all (okTy Try.prog tidsPg) = true := by kernel_rfl -- 55
theorem tidsPg_cells : tidsPg.all (fun t => match Try.prog.underlying t with | some (.int _) => Try.prog.cellsOf t == 1 | some .bool => Try.prog.cellsOf t == 1 | some .string => Try.prog.cellsOf t == 1 | some (.slice _) => Try.prog.cellsOf t == 1 | _ => true) = true := by kernel_rfl -- 55
set_option maxRecDepth 100000 in
/-- Handed in. -/
theorem arg_Pg {H : Type} {enc : TypeId × Value → H} {W : World} {base : Nat} {vv : Value} {d : DataW H} {p : List MemPlace} (hv : Value.okWide Try.prog W .any base 55 vv)
    (h : DataW.Trod enc Try.prog W 0 (fun _ => true) true 55 vv d p) : ∃ (ds : List Dat) (fs : List Df) (ads : Option Addr) (cds : Nat) (afs : Option Addr) (cfs : Nat), vv = .agg #[.slice ads ds.length cds, .slice afs fs.length cfs] ∧ RdS W (Pg.d (Pg.mk ds fs)) [.slice ads ds.length cds, .slice afs fs.length cfs] := by
  obtain ⟨cs, rfl, _⟩ := okWide_struct Try.underlying55 hv
  obtain ⟨fuel, hf⟩ := h
  obtain ⟨_, d', F, h1, h2⟩ := trod_rd tidsPg_ok tidsPg_cells fuel _ _ _ (by simp [tidsPg]) hf
  obtain ⟨⟨ds, fs⟩, rfl⟩ := typed_Pg _ _ h2
  obtain ⟨ads, cds, afs, cfs, hc, -⟩ := h1.Pg_inv
  rw [hc] at h1
  refine ⟨ds, fs, ads, cds, afs, cfs, ?_, ⟨F, h1⟩⟩
  have : cs = #[.slice ads ds.length cds, .slice afs fs.length cfs] := by
    apply Array.toList_inj.1
    simpa [Value.cells] using hc
  rw [this]
end Go.Proofs.Ytdcifcfkjhpokaa

namespace Go.Proofs.Ytdcifcfkjhpokaa
open Go.ChangeShapes Go.WideShapes Go.ChangeAt Go.RowKit
open Go.Sort (grow)
set_option linter.unusedVariables false

abbrev SzCon : Prop := ∀ (n : ByteArray) (fs : List Ty) (afs : Option Addr) (cfs : Nat) (left : Int) (w : World), RdS w (Con.d (Con.mk n fs)) [.string n, .slice afs fs.length cfs] → 0 ≤ left → left ≤ 1048576 →
  Calls Try.prog 160 #[.agg #[.string n, .slice afs fs.length cfs], .int .i64 left] w fun e w' => e = .returned (.int .i64 (purse left (Con.bulk (Con.mk n fs)))) ∧ Below w.heap.size w w'
theorem szCon : SzCon := by
  intro n fs afs cfs left w hr h0 h1
  have hbk : Con.bulk (Con.mk n fs) = n.size + Ty.bulks fs := rfl
  obtain ⟨zn, hfs⟩ := hr.fCon
  by_cases hp0 : ((n.size : Nat) : Int) ≤ left
  case neg =>
    have HBK := hid hbk
    have HX0 := hid ((Boxes.nil w).alloc #[.string n, .slice afs fs.length cfs] 170 (0, 0))
    have hbw0 : Below w.heap.size w (w.alloc (.cells #[.string n, .slice afs fs.length cfs] 170)) := (Below.refl _ _).alloc (Nat.le_refl _) _
    have HBW := hid hbw0
    clear hr hbk hbw0 hfs
    go_enter Try.func160, Try.ntmps160
    go_wp2_with fail
    go_ret
    exact ⟨ret_int (by rw [purse_no (by have := HBK.out; omega)]), HBW.out⟩
  case pos =>
    skip
    have hc1 := fun (W : World) (hb : Below w.heap.size w W) => (szTys fs afs cfs (left - n.size) W (hfs.below hb) (by omega) (by omega))
    by_cases hp1 : ((Ty.bulks fs : Nat) : Int) ≤ left - n.size
    case neg =>
      rw [purse_no hp1] at hc1
      have HC1 := hid hc1
      have HBK := hid hbk
      have HX0 := hid ((Boxes.nil w).alloc #[.string n, .slice afs fs.length cfs] 170 (0, 0))
      have hbw0 : Below w.heap.size w (w.alloc (.cells #[.string n, .slice afs fs.length cfs] 170)) := (Below.refl _ _).alloc (Nat.le_refl _) _
      have HBW := hid hbw0
      clear hr hbk hbw0 hc1 hfs
      go_enter Try.func160, Try.ntmps160
      go_wp2_with fail
      refine (HC1.out _ HBW.out).mono ?_
      rintro e w1 ⟨rfl, hb1⟩
      have hbw1 := HBW.out.trans (hb1.mono (by simp))
      have hx1 := HX0.out.below hb1
      have HX1 := hid hx1
      clear hx1 hb1 HC1
      go_wp2_with fail
      go_ret
      exact ⟨ret_int (by rw [purse_no (by have := HBK.out; omega)]), hbw1⟩
    case pos =>
      rw [purse_ok hp1] at hc1
      have HC1 := hid hc1
      have HBK := hid hbk
      have HX0 := hid ((Boxes.nil w).alloc #[.string n, .slice afs fs.length cfs] 170 (0, 0))
      have hbw0 : Below w.heap.size w (w.alloc (.cells #[.string n, .slice afs fs.length cfs] 170)) := (Below.refl _ _).alloc (Nat.le_refl _) _
      have HBW := hid hbw0
      clear hr hbk hbw0 hc1 hfs
      go_enter Try.func160, Try.ntmps160
      go_wp2_with fail
      refine (HC1.out _ HBW.out).mono ?_
      rintro e w1 ⟨rfl, hb1⟩
      have hbw1 := HBW.out.trans (hb1.mono (by simp))
      have hx1 := HX0.out.below hb1
      have HX1 := hid hx1
      clear hx1 hb1 HC1
      go_wp2_with fail
      go_ret
      exact ⟨ret_int (by rw [purse_ok (by have := HBK.out; omega)]; have := HBK.out; omega), hbw1⟩

theorem szCons (ts : List Con) (a : Option Addr) (c : Nat) (left : Int) (w : World) (hr : RdL w (Con.ds ts) (.slice a ts.length c)) (h0 : 0 ≤ left) (h1 : left ≤ 1048576) :
    Calls Try.prog 144 #[.slice a ts.length c, .int .i64 left] w fun e w' => e = .returned (.int .i64 (purse left (Con.bulks ts))) ∧ Below w.heap.size w w' := by
  obtain ⟨_, _, e, h2, h3, h4⟩ := hr.eCon
  simp only [Value.slice.injEq, true_and] at e
  obtain ⟨rfl, rfl⟩ := e
  have hl := Con.bulks_length ts
  skip
  have H4 := hid h4
  clear hr h4 
  by_cases hs : left < ts.length
  · rw [purse_no (by omega)]
    go_enter Try.func144, Try.ntmps144
    go_wp2_with fail
    go_ret
    exact ⟨rfl, Below.refl _ _⟩
  · have hd0 : decide (left - (ts.length : Int) < 0) = false := by simp; omega
    go_enter Try.func144, Try.ntmps144
    go_wp2_with fail
    go_loopw [1, 5] (fun l i wr => ∃ (j : Nat) (L : Int), j ≤ ts.length ∧ i = .int .i64 j ∧ l = .int .i64 L ∧ Hid (L + (Con.bulks (ts.take j) + ts.length : Nat) = left + j) ∧ 0 ≤ L ∧ L ≤ 1048576 ∧ Below w.heap.size w wr) (fun _ i _ => ts.length - (intOf i).toNat)
    case atStart => exact ⟨0, left - ts.length, by omega, rfl, rfl, by show _ = _; simp [Con.bulks], by omega, by omega, Below.refl _ _⟩
    case round =>
      obtain ⟨j, L, hj, rfl, rfl, HL, hL0, hL1, hb⟩ := hrel
      by_cases hlt : j < ts.length
      · obtain ⟨b, o, rfl, hbl, hall⟩ := H4.out (by omega)
        obtain ⟨t, ht⟩ : ∃ t, ts[j]? = some t := ⟨_, List.getElem?_eq_getElem hlt⟩
        obtain ⟨n1, fs1⟩ := t
        obtain ⟨afs1, cfs1, q0, q1, hrk⟩ := hall j n1 fs1 ht
        clear hall H4
        have d0 := (hb.cell (p := ⟨b, o + j * 2, none⟩) hbl).trans q0
        have d1 := (hb.cell (p := ⟨b, o + j * 2 + 1, none⟩) hbl).trans q1
        have HT := hid ht
        have hc := szCon n1 fs1 afs1 cfs1 L wr (hrk.below hb) hL0 hL1
        have hst := Con.bulks_take ts j _ ht
        have hle := Con.bulks_le ts (j + 1)
        by_cases hp : ((Con.bulk (Con.mk n1 fs1) : Nat) : Int) ≤ L
        · rw [purse_ok hp] at hc
          have HC := hid hc
          have HS := hid hst
          clear ht hrk q0 q1 hc hst
          go_wp2_with fail
          refine HC.out.mono ?_
          clear HC
          rintro e w1 ⟨rfl, hb1⟩
          go_wp2_with fail
          go_roundw
          case rel => exact ⟨j + 1, _, by omega, by go_num, rfl, by show _ = _; have := HL.out; have := HS.out; omega, by omega, by omega, hb.trans (hb1.mono hb.size)⟩
          case measure => simp [intOf]; omega
        · rw [purse_no hp] at hc
          have HC := hid hc
          have HS := hid hst
          clear ht hrk q0 q1 hc hst
          go_wp2_with fail
          refine HC.out.mono ?_
          clear HC
          rintro e w1 ⟨rfl, hb1⟩
          go_wp2_with fail
          go_ret
          exact ⟨ret_int (by rw [purse_no (by have := HL.out; have := HS.out; omega)]), hb.trans (hb1.mono hb.size)⟩
      · obtain rfl : j = ts.length := by omega
        rw [List.take_length] at HL
        go_wp2_with fail
        go_ret
        exact ⟨ret_int (by rw [purse_ok (by have := HL.out; omega)]; have := HL.out; omega), hb⟩

end Go.Proofs.Ytdcifcfkjhpokaa

namespace Go.Proofs.Ytdcifcfkjhpokaa
open Go.ChangeShapes Go.WideShapes Go.ChangeAt Go.RowKit
open Go.Sort (grow)
set_option linter.unusedVariables false

abbrev SzDat : Prop := ∀ (n : ByteArray) (qs : List Con) (aqs : Option Addr) (cqs : Nat) (left : Int) (w : World), RdS w (Dat.d (Dat.mk n qs)) [.string n, .slice aqs qs.length cqs] → 0 ≤ left → left ≤ 1048576 →
  Calls Try.prog 111 #[.agg #[.string n, .slice aqs qs.length cqs], .int .i64 left] w fun e w' => e = .returned (.int .i64 (purse left (Dat.bulk (Dat.mk n qs)))) ∧ Below w.heap.size w w'
theorem szDat : SzDat := by
  intro n qs aqs cqs left w hr h0 h1
  have hbk : Dat.bulk (Dat.mk n qs) = n.size + Con.bulks qs := rfl
  obtain ⟨zn, hqs⟩ := hr.fDat
  by_cases hp0 : ((n.size : Nat) : Int) ≤ left
  case neg =>
    have HBK := hid hbk
    have HX0 := hid ((Boxes.nil w).alloc #[.string n, .slice aqs qs.length cqs] 135 (0, 0))
    have hbw0 : Below w.heap.size w (w.alloc (.cells #[.string n, .slice aqs qs.length cqs] 135)) := (Below.refl _ _).alloc (Nat.le_refl _) _
    have HBW := hid hbw0
    clear hr hbk hbw0 hqs
    go_enter Try.func111, Try.ntmps111
    go_wp2_with fail
    go_ret
    exact ⟨ret_int (by rw [purse_no (by have := HBK.out; omega)]), HBW.out⟩
  case pos =>
    skip
    have hc1 := fun (W : World) (hb : Below w.heap.size w W) => (szCons qs aqs cqs (left - n.size) W (hqs.below hb) (by omega) (by omega))
    by_cases hp1 : ((Con.bulks qs : Nat) : Int) ≤ left - n.size
    case neg =>
      rw [purse_no hp1] at hc1
      have HC1 := hid hc1
      have HBK := hid hbk
      have HX0 := hid ((Boxes.nil w).alloc #[.string n, .slice aqs qs.length cqs] 135 (0, 0))
      have hbw0 : Below w.heap.size w (w.alloc (.cells #[.string n, .slice aqs qs.length cqs] 135)) := (Below.refl _ _).alloc (Nat.le_refl _) _
      have HBW := hid hbw0
      clear hr hbk hbw0 hc1 hqs
      go_enter Try.func111, Try.ntmps111
      go_wp2_with fail
      refine (HC1.out _ HBW.out).mono ?_
      rintro e w1 ⟨rfl, hb1⟩
      have hbw1 := HBW.out.trans (hb1.mono (by simp))
      have hx1 := HX0.out.below hb1
      have HX1 := hid hx1
      clear hx1 hb1 HC1
      go_wp2_with fail
      go_ret
      exact ⟨ret_int (by rw [purse_no (by have := HBK.out; omega)]), hbw1⟩
    case pos =>
      rw [purse_ok hp1] at hc1
      have HC1 := hid hc1
      have HBK := hid hbk
      have HX0 := hid ((Boxes.nil w).alloc #[.string n, .slice aqs qs.length cqs] 135 (0, 0))
      have hbw0 : Below w.heap.size w (w.alloc (.cells #[.string n, .slice aqs qs.length cqs] 135)) := (Below.refl _ _).alloc (Nat.le_refl _) _
      have HBW := hid hbw0
      clear hr hbk hbw0 hc1 hqs
      go_enter Try.func111, Try.ntmps111
      go_wp2_with fail
      refine (HC1.out _ HBW.out).mono ?_
      rintro e w1 ⟨rfl, hb1⟩
      have hbw1 := HBW.out.trans (hb1.mono (by simp))
      have hx1 := HX0.out.below hb1
      have HX1 := hid hx1
      clear hx1 hb1 HC1
      go_wp2_with fail
      go_ret
      exact ⟨ret_int (by rw [purse_ok (by have := HBK.out; omega)]; have := HBK.out; omega), hbw1⟩

theorem szDats (ts : List Dat) (a : Option Addr) (c : Nat) (left : Int) (w : World) (hr : RdL w (Dat.ds ts) (.slice a ts.length c)) (h0 : 0 ≤ left) (h1 : left ≤ 1048576) :
    Calls Try.prog 70 #[.slice a ts.length c, .int .i64 left] w fun e w' => e = .returned (.int .i64 (purse left (Dat.bulks ts))) ∧ Below w.heap.size w w' := by
  obtain ⟨_, _, e, h2, h3, h4⟩ := hr.eDat
  simp only [Value.slice.injEq, true_and] at e
  obtain ⟨rfl, rfl⟩ := e
  have hl := Dat.bulks_length ts
  skip
  have H4 := hid h4
  clear hr h4 
  by_cases hs : left < ts.length
  · rw [purse_no (by omega)]
    go_enter Try.func70, Try.ntmps70
    go_wp2_with fail
    go_ret
    exact ⟨rfl, Below.refl _ _⟩
  · have hd0 : decide (left - (ts.length : Int) < 0) = false := by simp; omega
    go_enter Try.func70, Try.ntmps70
    go_wp2_with fail
    go_loopw [1, 5] (fun l i wr => ∃ (j : Nat) (L : Int), j ≤ ts.length ∧ i = .int .i64 j ∧ l = .int .i64 L ∧ Hid (L + (Dat.bulks (ts.take j) + ts.length : Nat) = left + j) ∧ 0 ≤ L ∧ L ≤ 1048576 ∧ Below w.heap.size w wr) (fun _ i _ => ts.length - (intOf i).toNat)
    case atStart => exact ⟨0, left - ts.length, by omega, rfl, rfl, by show _ = _; simp [Dat.bulks], by omega, by omega, Below.refl _ _⟩
    case round =>
      obtain ⟨j, L, hj, rfl, rfl, HL, hL0, hL1, hb⟩ := hrel
      by_cases hlt : j < ts.length
      · obtain ⟨b, o, rfl, hbl, hall⟩ := H4.out (by omega)
        obtain ⟨t, ht⟩ : ∃ t, ts[j]? = some t := ⟨_, List.getElem?_eq_getElem hlt⟩
        obtain ⟨n1, qs1⟩ := t
        obtain ⟨aqs1, cqs1, q0, q1, hrk⟩ := hall j n1 qs1 ht
        clear hall H4
        have d0 := (hb.cell (p := ⟨b, o + j * 2, none⟩) hbl).trans q0
        have d1 := (hb.cell (p := ⟨b, o + j * 2 + 1, none⟩) hbl).trans q1
        have HT := hid ht
        have hc := szDat n1 qs1 aqs1 cqs1 L wr (hrk.below hb) hL0 hL1
        have hst := Dat.bulks_take ts j _ ht
        have hle := Dat.bulks_le ts (j + 1)
        by_cases hp : ((Dat.bulk (Dat.mk n1 qs1) : Nat) : Int) ≤ L
        · rw [purse_ok hp] at hc
          have HC := hid hc
          have HS := hid hst
          clear ht hrk q0 q1 hc hst
          go_wp2_with fail
          refine HC.out.mono ?_
          clear HC
          rintro e w1 ⟨rfl, hb1⟩
          go_wp2_with fail
          go_roundw
          case rel => exact ⟨j + 1, _, by omega, by go_num, rfl, by show _ = _; have := HL.out; have := HS.out; omega, by omega, by omega, hb.trans (hb1.mono hb.size)⟩
          case measure => simp [intOf]; omega
        · rw [purse_no hp] at hc
          have HC := hid hc
          have HS := hid hst
          clear ht hrk q0 q1 hc hst
          go_wp2_with fail
          refine HC.out.mono ?_
          clear HC
          rintro e w1 ⟨rfl, hb1⟩
          go_wp2_with fail
          go_ret
          exact ⟨ret_int (by rw [purse_no (by have := HL.out; have := HS.out; omega)]), hb.trans (hb1.mono hb.size)⟩
      · obtain rfl : j = ts.length := by omega
        rw [List.take_length] at HL
        go_wp2_with fail
        go_ret
        exact ⟨ret_int (by rw [purse_ok (by have := HL.out; omega)]; have := HL.out; omega), hb⟩

end Go.Proofs.Ytdcifcfkjhpokaa

namespace Go.Proofs.Ytdcifcfkjhpokaa
open Go.ChangeShapes Go.WideShapes Go.ChangeAt Go.RowKit
open Go.Sort (grow)
set_option linter.unusedVariables false

abbrev SzPg : Prop := ∀ (ds : List Dat) (fs : List Df) (ads : Option Addr) (cds : Nat) (afs : Option Addr) (cfs : Nat) (left : Int) (w : World), RdS w (Pg.d (Pg.mk ds fs)) [.slice ads ds.length cds, .slice afs fs.length cfs] → 0 ≤ left → left ≤ 1048576 →
  Calls Try.prog 37 #[.agg #[.slice ads ds.length cds, .slice afs fs.length cfs], .int .i64 left] w fun e w' => e = .returned (.int .i64 (purse left (Pg.bulk (Pg.mk ds fs)))) ∧ Below w.heap.size w w'
theorem szPg : SzPg := by
  intro ds fs ads cds afs cfs left w hr h0 h1
  have hbk : Pg.bulk (Pg.mk ds fs) = Dat.bulks ds + Df.bulks fs := rfl
  obtain ⟨hds, hfs⟩ := hr.fPg
  have hc0 := fun (W : World) (hb : Below w.heap.size w W) => (szDats ds ads cds (left) W (hds.below hb) (by omega) (by omega))
  by_cases hp0 : ((Dat.bulks ds : Nat) : Int) ≤ left
  case neg =>
    rw [purse_no hp0] at hc0
    have HC0 := hid hc0
    have HBK := hid hbk
    have HX0 := hid ((Boxes.nil w).alloc #[.slice ads ds.length cds, .slice afs fs.length cfs] 55 (0, 0))
    have hbw0 : Below w.heap.size w (w.alloc (.cells #[.slice ads ds.length cds, .slice afs fs.length cfs] 55)) := (Below.refl _ _).alloc (Nat.le_refl _) _
    have HBW := hid hbw0
    clear hr hbk hbw0 hc0 hds hfs
    go_enter Try.func37, Try.ntmps37
    go_wp2_with fail
    refine (HC0.out _ HBW.out).mono ?_
    rintro e w1 ⟨rfl, hb1⟩
    have hbw1 := HBW.out.trans (hb1.mono (by simp))
    have hx1 := HX0.out.below hb1
    have HX1 := hid hx1
    clear hx1 hb1 HC0
    go_wp2_with fail
    go_ret
    exact ⟨ret_int (by rw [purse_no (by have := HBK.out; omega)]), hbw1⟩
  case pos =>
    rw [purse_ok hp0] at hc0
    have hc1 := fun (W : World) (hb : Below w.heap.size w W) => (szDfs fs afs cfs (left - (Dat.bulks ds : Nat)) W (hfs.below hb) (by omega) (by omega))
    by_cases hp1 : ((Df.bulks fs : Nat) : Int) ≤ left - (Dat.bulks ds : Nat)
    case neg =>
      rw [purse_no hp1] at hc1
      have HC0 := hid hc0
      have HC1 := hid hc1
      have HBK := hid hbk
      have HX0 := hid ((Boxes.nil w).alloc #[.slice ads ds.length cds, .slice afs fs.length cfs] 55 (0, 0))
      have hbw0 : Below w.heap.size w (w.alloc (.cells #[.slice ads ds.length cds, .slice afs fs.length cfs] 55)) := (Below.refl _ _).alloc (Nat.le_refl _) _
      have HBW := hid hbw0
      clear hr hbk hbw0 hc0 hc1 hds hfs
      go_enter Try.func37, Try.ntmps37
      go_wp2_with fail
      refine (HC0.out _ HBW.out).mono ?_
      rintro e w1 ⟨rfl, hb1⟩
      have hbw1 := HBW.out.trans (hb1.mono (by simp))
      have hx1 := HX0.out.below hb1
      have g1_1 := hx1.at 0 1 rfl rfl
      have HX1 := hid hx1
      clear hx1 hb1 HC0
      go_wp2_with fail
      refine (HC1.out _ hbw1).mono ?_
      rintro e w2 ⟨rfl, hb2⟩
      have hbw2 := hbw1.trans (hb2.mono hbw1.size)
      have hx2 := HX1.out.below hb2
      have HX2 := hid hx2
      clear hx2 hb2 HC1
      go_wp2_with fail
      go_ret
      exact ⟨ret_int (by rw [purse_no (by have := HBK.out; omega)]), hbw2⟩
    case pos =>
      rw [purse_ok hp1] at hc1
      have HC0 := hid hc0
      have HC1 := hid hc1
      have HBK := hid hbk
      have HX0 := hid ((Boxes.nil w).alloc #[.slice ads ds.length cds, .slice afs fs.length cfs] 55 (0, 0))
      have hbw0 : Below w.heap.size w (w.alloc (.cells #[.slice ads ds.length cds, .slice afs fs.length cfs] 55)) := (Below.refl _ _).alloc (Nat.le_refl _) _
      have HBW := hid hbw0
      clear hr hbk hbw0 hc0 hc1 hds hfs
      go_enter Try.func37, Try.ntmps37
      go_wp2_with fail
      refine (HC0.out _ HBW.out).mono ?_
      rintro e w1 ⟨rfl, hb1⟩
      have hbw1 := HBW.out.trans (hb1.mono (by simp))
      have hx1 := HX0.out.below hb1
      have g1_1 := hx1.at 0 1 rfl rfl
      have HX1 := hid hx1
      clear hx1 hb1 HC0
      go_wp2_with fail
      refine (HC1.out _ hbw1).mono ?_
      rintro e w2 ⟨rfl, hb2⟩
      have hbw2 := hbw1.trans (hb2.mono hbw1.size)
      have hx2 := HX1.out.below hb2
      have HX2 := hid hx2
      clear hx2 hb2 HC1
      go_wp2_with fail
      go_ret
      exact ⟨ret_int (by rw [purse_ok (by have := HBK.out; omega)]; have := HBK.out; omega), hbw2⟩

end Go.Proofs.Ytdcifcfkjhpokaa

namespace Go.Proofs.Ytdcifcfkjhpokaa
open Go.ChangeShapes Go.WideShapes Go.ChangeAt Go.RowKit
open Go.Sort (grow)
set_option linter.unusedVariables false

/-- Handed back: the call's own copy. -/
def GivesCon (n : ByteArray) (fs : List Ty) (w : World) (e : Ending) (w' : World) : Prop :=
  ∃ (afs : Option Addr) (cfs : Nat), e = .returned (.agg #[.string n, .slice afs fs.length cfs]) ∧ OwnS w' w.heap.size (Con.d (Con.mk n fs)) [.string n, .slice afs fs.length cfs] ∧ Below w.heap.size w w'
def GivesCons (ts : List Con) (w : World) (e : Ending) (w' : World) : Prop :=
  ∃ (a : Option Addr) (c : Nat), e = .returned (.slice a ts.length c) ∧ OwnL w' w.heap.size (Con.ds ts) (.slice a ts.length c) ∧ Below w.heap.size w w'
abbrev ToCon : Prop := ∀ (n : ByteArray) (fs : List Ty) (afs : Option Addr) (cfs : Nat) (w : World), Con.bulk (Con.mk n fs) ≤ 1048576 → RdS w (Con.d (Con.mk n fs)) [.string n, .slice afs fs.length cfs] →
  Calls Try.prog 161 #[.agg #[.string n, .slice afs fs.length cfs]] w (GivesCon n fs w)
theorem toCon : ToCon := by
  intro n fs afs cfs w hM hr
  have hbk : Con.bulk (Con.mk n fs) = n.size + Ty.bulks fs := rfl
  obtain ⟨zn, hfs⟩ := hr.fCon
  have hc1 := fun (W : World) (hb : Below w.heap.size w W) => toTys fs afs cfs W (by omega) (hfs.below hb)
  have HC1 := hid hc1
  have hB0 : Below w.heap.size w (w.alloc (.cells #[.string n, .slice afs fs.length cfs] 170)) := (Below.refl _ _).alloc (Nat.le_refl _) _
  clear hr hbk hM hc1 hB0 hfs
  go_enter Try.func161, Try.ntmps161
  go_wp2_with fail
  refine (HC1.out _ ((((Below.refl _ _).alloc (Nat.le_refl _) _).alloc (by simp) _).alloc (by simp; omega) _)).mono ?_
  rintro e w1 ⟨afs_1, cfs_1, rfl, ho1, hb1⟩
  obtain ⟨hcl1, hfz1⟩ := bcell hb1
  have hz1 : w.heap.size + 1 + 1 < w1.heap.size := by have := hb1.size; simp at this; omega
  have hbw1 : Below w.heap.size w w1 := ((((Below.refl _ _).alloc (Nat.le_refl _) _).alloc (by simp) _).alloc (by simp; omega) _).trans (hb1.mono (by simp; omega))
  have HO1 := hid (ho1.mono (base' := w.heap.size + 3) (by simp))
  have HT1 := hid (Nat.le_refl w1.heap.size)
  clear HC1 ho1
  go_wp2_with fail
  refine bodyPost_ret (v := .agg #[.string n, .slice afs_1 fs.length cfs_1]) (by simp [results, Try.results161, go_sem, hcl1]) rfl ⟨afs_1, cfs_1, rfl, ?_, ?_⟩
  · have hfin := ((((Keeps.refl (w.heap.size + 3) w1).setCell (p := ⟨w.heap.size + 1 + 1, 1, none⟩) (by simp) (.slice afs_1 fs.length cfs_1)).setCell (p := ⟨w.heap.size + 1, 0, none⟩) (by simp) (.string n)).setCell (p := ⟨w.heap.size + 1, 1, none⟩) (by simp) (.slice afs_1 fs.length cfs_1))
    have hp := ((PartAll.cons (HO1.out.part.keeps hfin (by first | exact Nat.le_refl _ | omega) (Nat.le_refl _)) (PartAll.nil _ w1.heap.size w1.heap.size) (Nat.le_refl _) (by omega) (by omega)).plain (Rd.str_mk zn))
    exact OwnS.mono (base := w.heap.size + 3) hp.own (by omega)
  · exact (((hbw1.setCell (by simp; try omega) _).setCell (by simp; try omega) _).setCell (by simp; try omega) _)

theorem infoCon : (Try.prog.info? 140).map (fun i => (i.zero, i.size, i.bytes)) = some (some (.agg #[.string ⟨#[]⟩, .slice none 0 0]), 2, 40) := by kernel_rfl
theorem makeCon (n : Nat) (hn : n ≤ 1048576) : ∃ C : Array Value, C.size = n * 2 ∧ ∀ w : World, (Instr.makeSlice 94 (.int .i64 (n : Int)) (.int .i64 (n : Int))).run Try.prog w = .ok (.slice (some ⟨w.heap.size, 0, none⟩) n n) (w.alloc (.cells C 140)) := by
  obtain ⟨i, hi, hz, hs, hb⟩ := info_parts infoCon
  refine ⟨madeCells (Value.cells (.agg #[.string ⟨#[]⟩, .slice none 0 0])) (n * 2), size_madeCells _ _, fun w => ?_⟩
  have := run_make (P := Try.prog) w 94 140 i _ Try.underlying94 hi hz .i64 .i64 n n (by omega) (Int.le_refl _) (by rw [hb]; omega) (by omega)
  simp only [Int.toNat_natCast, hs] at this
  exact this
theorem toCons (ts : List Con) (a : Option Addr) (c : Nat) (w : World) (hM : Con.bulks ts ≤ 1048576) (hr : RdL w (Con.ds ts) (.slice a ts.length c)) :
    Calls Try.prog 145 #[.slice a ts.length c] w (GivesCons ts w) := by
  obtain ⟨_, _, e, h2, h3, h4⟩ := hr.eCon
  simp only [Value.slice.injEq, true_and] at e
  obtain ⟨rfl, rfl⟩ := e
  have hl := Con.bulks_length ts
  obtain ⟨C, hC, hmk⟩ := makeCon ts.length (by omega)
  have HC := hid hC
  have H4 := hid h4
  clear hr h4 hC
  go_enter Try.func145, Try.ntmps145
  go_wp2_with fail
  clear hmk
  go_loopw [4] (fun i wr => ∃ (j : Nat), j ≤ ts.length ∧ i = .int .i64 j ∧ ∃ (cur : Array Value) (F : List Nat), wr.heap[w.heap.size]? = some (.cells cur 140 (0, 0)) ∧ Hid (cur.size = ts.length * 2) ∧ Hid (RdAll wr (Con.ds (ts.take j)) (cur.toList.take (j * 2)) F) ∧ Owned wr (w.heap.size + 1) F ∧ Below w.heap.size w wr) (fun i _ => ts.length - (intOf i).toNat)
  case atStart => exact ⟨0, by omega, rfl, C, [], heap_alloc_new _ _, HC.out, by show RdAll _ _ _ _; simpa [Con.ds] using RdAll.nil, Owned.nil _ _, (Below.refl _ _).alloc (Nat.le_refl _) _⟩
  case round =>
    obtain ⟨j, hj, rfl, cur, F, hcur, HS, HR, HO, hb⟩ := hrel
    by_cases hlt : j < ts.length
    · obtain ⟨b, o, rfl, hbl, hall⟩ := H4.out (by omega)
      obtain ⟨t, ht⟩ : ∃ t, ts[j]? = some t := ⟨_, List.getElem?_eq_getElem hlt⟩
      obtain ⟨n1, fs1⟩ := t
      obtain ⟨afs1, cfs1, q0, q1, hrk⟩ := hall j n1 fs1 ht
      clear hall H4
      have d0 := (hb.cell (p := ⟨b, o + j * 2, none⟩) hbl).trans q0
      have d1 := (hb.cell (p := ⟨b, o + j * 2 + 1, none⟩) hbl).trans q1
      have HT := hid ht
      have hbg := Con.bulk_get ts j _ ht
      have hfc := hrk.fCon
      have HFC := hid hfc
      have hc := toCon n1 fs1 afs1 cfs1 wr (by omega) (hrk.below hb)
      have HC := hid hc
      have HU := hid hcur
      clear ht hrk q0 q1 hc hcur hfc
      go_wp2_with fail
      refine HC.out.mono ?_
      clear HC
      rintro e w1 ⟨afs2, cfs2, rfl, hown, hb1⟩
      have hB : w.heap.size < wr.heap.size := (Array.getElem?_eq_some_iff.1 HU.out).1
      have hcur1 : w1.heap[w.heap.size]? = some (.cells cur 140 (0, 0)) := (hb1.block _ hB).trans HU.out
      have hsz : j * 2 + 1 < cur.size := by have := HS.out; omega
      have e0 : w1.cell? ⟨w.heap.size, j * 2, none⟩ = some (cur[j * 2]'(by omega)) := by simp [World.cell?, hcur1]
      have f0 : w1.frozen? ⟨w.heap.size, j * 2, none⟩ = false := by simp [World.frozen?, hcur1]
      have e1 : w1.cell? ⟨w.heap.size, j * 2 + 1, none⟩ = some (cur[j * 2 + 1]'(by omega)) := by simp [World.cell?, hcur1]
      have f1 : w1.frozen? ⟨w.heap.size, j * 2 + 1, none⟩ = false := by simp [World.frozen?, hcur1]
      have HCU := hid hcur1
      have HW := hid hown
      clear hcur1 hown
      go_wp2_with fail
      obtain ⟨F3, hr3, ho3⟩ := HW.out
      have hlo3 : ∀ y ∈ F3, wr.heap.size ≤ y := fun y hy => (ho3.2 y hy).1
      have hlo : ∀ x ∈ F, x < wr.heap.size := HO.lt
      obtain ⟨cur', H, g1, g2, g3, g4, g5⟩ := fill_step (m := 2) (base := w.heap.size + 1) HCU.out rfl (by have := HS.out; omega) (HR.out.below hb1) hr3 (HO.keep fun b hb => hb1.block b (hlo b hb)) (ho3.mono (by omega))
        (fun x hx => by have := (HO.2 x hx).1; omega) (fun x hx => by have := hlo3 x hx; omega) (fun x hx y hy => by have := hlo x hx; have := hlo3 y hy; omega)
      have hbw : Below w.heap.size w (setMany w1 w.heap.size (j * 2) [.string n1, .slice afs2 fs1.length cfs2]) := Below.setMany _ _ (hb.trans (hb1.mono hb.size)) (Nat.le_refl _)
      have htk : Con.ds (ts.take (j + 1)) = Con.ds (ts.take j) ++ [Con.d (Con.mk n1 fs1)] := Con.ds_snoc ts j _ HT.out
      go_roundw
      case rel => exact ⟨j + 1, by omega, by go_num, cur', H, g1, by show _ = _; rw [g2]; exact HS.out, by show RdAll _ _ _ _; rw [htk]; exact g3, g4, hbw⟩
      case measure => simp [intOf]; omega
    · obtain rfl : j = ts.length := by omega
      rw [List.take_length] at HR
      go_wp2_with fail
      go_ret
      obtain ⟨G, q1, q2⟩ := fill_done (m := 2) (base := w.heap.size) hcur HS.out (Con.ds_length ts) (by omega) HR.out (HO.mono (by omega)) (Nat.le_refl _) (fun x hx => by have := (HO.2 x hx).1; omega)
      exact ⟨_, _, rfl, ⟨G, q1, q2⟩, hb⟩

end Go.Proofs.Ytdcifcfkjhpokaa

namespace Go.Proofs.Ytdcifcfkjhpokaa
open Go.ChangeShapes Go.WideShapes Go.ChangeAt Go.RowKit
open Go.Sort (grow)
set_option linter.unusedVariables false

/-- Handed back: the call's own copy. -/
def GivesDat (n : ByteArray) (qs : List Con) (w : World) (e : Ending) (w' : World) : Prop :=
  ∃ (aqs : Option Addr) (cqs : Nat), e = .returned (.agg #[.string n, .slice aqs qs.length cqs]) ∧ OwnS w' w.heap.size (Dat.d (Dat.mk n qs)) [.string n, .slice aqs qs.length cqs] ∧ Below w.heap.size w w'
def GivesDats (ts : List Dat) (w : World) (e : Ending) (w' : World) : Prop :=
  ∃ (a : Option Addr) (c : Nat), e = .returned (.slice a ts.length c) ∧ OwnL w' w.heap.size (Dat.ds ts) (.slice a ts.length c) ∧ Below w.heap.size w w'
abbrev ToDat : Prop := ∀ (n : ByteArray) (qs : List Con) (aqs : Option Addr) (cqs : Nat) (w : World), Dat.bulk (Dat.mk n qs) ≤ 1048576 → RdS w (Dat.d (Dat.mk n qs)) [.string n, .slice aqs qs.length cqs] →
  Calls Try.prog 115 #[.agg #[.string n, .slice aqs qs.length cqs]] w (GivesDat n qs w)
theorem toDat : ToDat := by
  intro n qs aqs cqs w hM hr
  have hbk : Dat.bulk (Dat.mk n qs) = n.size + Con.bulks qs := rfl
  obtain ⟨zn, hqs⟩ := hr.fDat
  have hc1 := fun (W : World) (hb : Below w.heap.size w W) => toCons qs aqs cqs W (by omega) (hqs.below hb)
  have HC1 := hid hc1
  have hB0 : Below w.heap.size w (w.alloc (.cells #[.string n, .slice aqs qs.length cqs] 135)) := (Below.refl _ _).alloc (Nat.le_refl _) _
  clear hr hbk hM hc1 hB0 hqs
  go_enter Try.func115, Try.ntmps115
  go_wp2_with fail
  refine (HC1.out _ ((((Below.refl _ _).alloc (Nat.le_refl _) _).alloc (by simp) _).alloc (by simp; omega) _)).mono ?_
  rintro e w1 ⟨aqs_1, cqs_1, rfl, ho1, hb1⟩
  obtain ⟨hcl1, hfz1⟩ := bcell hb1
  have hz1 : w.heap.size + 1 + 1 < w1.heap.size := by have := hb1.size; simp at this; omega
  have hbw1 : Below w.heap.size w w1 := ((((Below.refl _ _).alloc (Nat.le_refl _) _).alloc (by simp) _).alloc (by simp; omega) _).trans (hb1.mono (by simp; omega))
  have HO1 := hid (ho1.mono (base' := w.heap.size + 3) (by simp))
  have HT1 := hid (Nat.le_refl w1.heap.size)
  clear HC1 ho1
  go_wp2_with fail
  refine bodyPost_ret (v := .agg #[.string n, .slice aqs_1 qs.length cqs_1]) (by simp [results, Try.results115, go_sem, hcl1]) rfl ⟨aqs_1, cqs_1, rfl, ?_, ?_⟩
  · have hfin := ((((Keeps.refl (w.heap.size + 3) w1).setCell (p := ⟨w.heap.size + 1 + 1, 1, none⟩) (by simp) (.slice aqs_1 qs.length cqs_1)).setCell (p := ⟨w.heap.size + 1, 0, none⟩) (by simp) (.string n)).setCell (p := ⟨w.heap.size + 1, 1, none⟩) (by simp) (.slice aqs_1 qs.length cqs_1))
    have hp := ((PartAll.cons (HO1.out.part.keeps hfin (by first | exact Nat.le_refl _ | omega) (Nat.le_refl _)) (PartAll.nil _ w1.heap.size w1.heap.size) (Nat.le_refl _) (by omega) (by omega)).plain (Rd.str_mk zn))
    exact OwnS.mono (base := w.heap.size + 3) hp.own (by omega)
  · exact (((hbw1.setCell (by simp; try omega) _).setCell (by simp; try omega) _).setCell (by simp; try omega) _)

theorem infoDat : (Try.prog.info? 96).map (fun i => (i.zero, i.size, i.bytes)) = some (some (.agg #[.string ⟨#[]⟩, .slice none 0 0]), 2, 40) := by kernel_rfl
theorem makeDat (n : Nat) (hn : n ≤ 1048576) : ∃ C : Array Value, C.size = n * 2 ∧ ∀ w : World, (Instr.makeSlice 58 (.int .i64 (n : Int)) (.int .i64 (n : Int))).run Try.prog w = .ok (.slice (some ⟨w.heap.size, 0, none⟩) n n) (w.alloc (.cells C 96)) := by
  obtain ⟨i, hi, hz, hs, hb⟩ := info_parts infoDat
  refine ⟨madeCells (Value.cells (.agg #[.string ⟨#[]⟩, .slice none 0 0])) (n * 2), size_madeCells _ _, fun w => ?_⟩
  have := run_make (P := Try.prog) w 58 96 i _ Try.underlying58 hi hz .i64 .i64 n n (by omega) (Int.le_refl _) (by rw [hb]; omega) (by omega)
  simp only [Int.toNat_natCast, hs] at this
  exact this
theorem toDats (ts : List Dat) (a : Option Addr) (c : Nat) (w : World) (hM : Dat.bulks ts ≤ 1048576) (hr : RdL w (Dat.ds ts) (.slice a ts.length c)) :
    Calls Try.prog 75 #[.slice a ts.length c] w (GivesDats ts w) := by
  obtain ⟨_, _, e, h2, h3, h4⟩ := hr.eDat
  simp only [Value.slice.injEq, true_and] at e
  obtain ⟨rfl, rfl⟩ := e
  have hl := Dat.bulks_length ts
  obtain ⟨C, hC, hmk⟩ := makeDat ts.length (by omega)
  have HC := hid hC
  have H4 := hid h4
  clear hr h4 hC
  go_enter Try.func75, Try.ntmps75
  go_wp2_with fail
  clear hmk
  go_loopw [4] (fun i wr => ∃ (j : Nat), j ≤ ts.length ∧ i = .int .i64 j ∧ ∃ (cur : Array Value) (F : List Nat), wr.heap[w.heap.size]? = some (.cells cur 96 (0, 0)) ∧ Hid (cur.size = ts.length * 2) ∧ Hid (RdAll wr (Dat.ds (ts.take j)) (cur.toList.take (j * 2)) F) ∧ Owned wr (w.heap.size + 1) F ∧ Below w.heap.size w wr) (fun i _ => ts.length - (intOf i).toNat)
  case atStart => exact ⟨0, by omega, rfl, C, [], heap_alloc_new _ _, HC.out, by show RdAll _ _ _ _; simpa [Dat.ds] using RdAll.nil, Owned.nil _ _, (Below.refl _ _).alloc (Nat.le_refl _) _⟩
  case round =>
    obtain ⟨j, hj, rfl, cur, F, hcur, HS, HR, HO, hb⟩ := hrel
    by_cases hlt : j < ts.length
    · obtain ⟨b, o, rfl, hbl, hall⟩ := H4.out (by omega)
      obtain ⟨t, ht⟩ : ∃ t, ts[j]? = some t := ⟨_, List.getElem?_eq_getElem hlt⟩
      obtain ⟨n1, qs1⟩ := t
      obtain ⟨aqs1, cqs1, q0, q1, hrk⟩ := hall j n1 qs1 ht
      clear hall H4
      have d0 := (hb.cell (p := ⟨b, o + j * 2, none⟩) hbl).trans q0
      have d1 := (hb.cell (p := ⟨b, o + j * 2 + 1, none⟩) hbl).trans q1
      have HT := hid ht
      have hbg := Dat.bulk_get ts j _ ht
      have hfc := hrk.fDat
      have HFC := hid hfc
      have hc := toDat n1 qs1 aqs1 cqs1 wr (by omega) (hrk.below hb)
      have HC := hid hc
      have HU := hid hcur
      clear ht hrk q0 q1 hc hcur hfc
      go_wp2_with fail
      refine HC.out.mono ?_
      clear HC
      rintro e w1 ⟨aqs2, cqs2, rfl, hown, hb1⟩
      have hB : w.heap.size < wr.heap.size := (Array.getElem?_eq_some_iff.1 HU.out).1
      have hcur1 : w1.heap[w.heap.size]? = some (.cells cur 96 (0, 0)) := (hb1.block _ hB).trans HU.out
      have hsz : j * 2 + 1 < cur.size := by have := HS.out; omega
      have e0 : w1.cell? ⟨w.heap.size, j * 2, none⟩ = some (cur[j * 2]'(by omega)) := by simp [World.cell?, hcur1]
      have f0 : w1.frozen? ⟨w.heap.size, j * 2, none⟩ = false := by simp [World.frozen?, hcur1]
      have e1 : w1.cell? ⟨w.heap.size, j * 2 + 1, none⟩ = some (cur[j * 2 + 1]'(by omega)) := by simp [World.cell?, hcur1]
      have f1 : w1.frozen? ⟨w.heap.size, j * 2 + 1, none⟩ = false := by simp [World.frozen?, hcur1]
      have HCU := hid hcur1
      have HW := hid hown
      clear hcur1 hown
      go_wp2_with fail
      obtain ⟨F3, hr3, ho3⟩ := HW.out
      have hlo3 : ∀ y ∈ F3, wr.heap.size ≤ y := fun y hy => (ho3.2 y hy).1
      have hlo : ∀ x ∈ F, x < wr.heap.size := HO.lt
      obtain ⟨cur', H, g1, g2, g3, g4, g5⟩ := fill_step (m := 2) (base := w.heap.size + 1) HCU.out rfl (by have := HS.out; omega) (HR.out.below hb1) hr3 (HO.keep fun b hb => hb1.block b (hlo b hb)) (ho3.mono (by omega))
        (fun x hx => by have := (HO.2 x hx).1; omega) (fun x hx => by have := hlo3 x hx; omega) (fun x hx y hy => by have := hlo x hx; have := hlo3 y hy; omega)
      have hbw : Below w.heap.size w (setMany w1 w.heap.size (j * 2) [.string n1, .slice aqs2 qs1.length cqs2]) := Below.setMany _ _ (hb.trans (hb1.mono hb.size)) (Nat.le_refl _)
      have htk : Dat.ds (ts.take (j + 1)) = Dat.ds (ts.take j) ++ [Dat.d (Dat.mk n1 qs1)] := Dat.ds_snoc ts j _ HT.out
      go_roundw
      case rel => exact ⟨j + 1, by omega, by go_num, cur', H, g1, by show _ = _; rw [g2]; exact HS.out, by show RdAll _ _ _ _; rw [htk]; exact g3, g4, hbw⟩
      case measure => simp [intOf]; omega
    · obtain rfl : j = ts.length := by omega
      rw [List.take_length] at HR
      go_wp2_with fail
      go_ret
      obtain ⟨G, q1, q2⟩ := fill_done (m := 2) (base := w.heap.size) hcur HS.out (Dat.ds_length ts) (by omega) HR.out (HO.mono (by omega)) (Nat.le_refl _) (fun x hx => by have := (HO.2 x hx).1; omega)
      exact ⟨_, _, rfl, ⟨G, q1, q2⟩, hb⟩

end Go.Proofs.Ytdcifcfkjhpokaa

namespace Go.Proofs.Ytdcifcfkjhpokaa
open Go.ChangeShapes Go.WideShapes Go.ChangeAt Go.RowKit
open Go.Sort (grow)
set_option linter.unusedVariables false

/-- Handed back: the call's own copy. -/
def GivesPg (ds : List Dat) (fs : List Df) (w : World) (e : Ending) (w' : World) : Prop :=
  ∃ (ads : Option Addr) (cds : Nat) (afs : Option Addr) (cfs : Nat), e = .returned (.agg #[.slice ads ds.length cds, .slice afs fs.length cfs]) ∧ OwnS w' w.heap.size (Pg.d (Pg.mk ds fs)) [.slice ads ds.length cds, .slice afs fs.length cfs] ∧ Below w.heap.size w w'
def GivesPgs (ts : List Pg) (w : World) (e : Ending) (w' : World) : Prop :=
  ∃ (a : Option Addr) (c : Nat), e = .returned (.slice a ts.length c) ∧ OwnL w' w.heap.size (Pg.ds ts) (.slice a ts.length c) ∧ Below w.heap.size w w'
abbrev ToPg : Prop := ∀ (ds : List Dat) (fs : List Df) (ads : Option Addr) (cds : Nat) (afs : Option Addr) (cfs : Nat) (w : World), Pg.bulk (Pg.mk ds fs) ≤ 1048576 → RdS w (Pg.d (Pg.mk ds fs)) [.slice ads ds.length cds, .slice afs fs.length cfs] →
  Calls Try.prog 39 #[.agg #[.slice ads ds.length cds, .slice afs fs.length cfs]] w (GivesPg ds fs w)
theorem toPg : ToPg := by
  intro ds fs ads cds afs cfs w hM hr
  have hbk : Pg.bulk (Pg.mk ds fs) = Dat.bulks ds + Df.bulks fs := rfl
  obtain ⟨hds, hfs⟩ := hr.fPg
  have hc1 := fun (W : World) (hb : Below w.heap.size w W) => toDats ds ads cds W (by omega) (hds.below hb)
  have hc2 := fun (W : World) (hb : Below w.heap.size w W) => toDfs fs afs cfs W (by omega) (hfs.below hb)
  have HC1 := hid hc1
  have HC2 := hid hc2
  have hB0 : Below w.heap.size w (w.alloc (.cells #[.slice ads ds.length cds, .slice afs fs.length cfs] 55)) := (Below.refl _ _).alloc (Nat.le_refl _) _
  clear hr hbk hM hc1 hc2 hB0 hds hfs
  go_enter Try.func39, Try.ntmps39
  go_wp2_with fail
  refine (HC1.out _ ((((Below.refl _ _).alloc (Nat.le_refl _) _).alloc (by simp) _).alloc (by simp; omega) _)).mono ?_
  rintro e w1 ⟨ads_1, cds_1, rfl, ho1, hb1⟩
  obtain ⟨hcl1, hfz1⟩ := bcell hb1
  have hz1 : w.heap.size + 1 + 1 < w1.heap.size := by have := hb1.size; simp at this; omega
  have hy1 : w.heap.size + 1 < w1.heap.size := by omega
  have hx1 : w.heap.size < w1.heap.size := by omega
  have hbw1 : Below w.heap.size w w1 := ((((Below.refl _ _).alloc (Nat.le_refl _) _).alloc (by simp) _).alloc (by simp; omega) _).trans (hb1.mono (by simp; omega))
  have HO1 := hid (ho1.mono (base' := w.heap.size + 3) (by simp))
  have HT1 := hid (Nat.le_refl w1.heap.size)
  clear HC1 ho1
  have hbs1 := (hbw1.setCell (p := ⟨w.heap.size + 1 + 1, 0, none⟩) (by simp; omega) (.slice ads_1 ds.length cds_1))
  have HKS1 := hid ((Keeps.refl (w.heap.size + 3) w1).setCell (p := ⟨w.heap.size + 1 + 1, 0, none⟩) (by simp) (.slice ads_1 ds.length cds_1))
  go_wp2_with fail
  refine (HC2.out _ hbs1).mono ?_
  rintro e w2 ⟨afs_2, cfs_2, rfl, ho2, hb2⟩
  obtain ⟨hcl2, hfz2⟩ := bcell hb2
  have hz2 : w.heap.size + 1 + 1 < w2.heap.size := by have := hb2.size; simp at this; omega
  have hbw2 : Below w.heap.size w w2 := hbs1.trans (hb2.mono hbs1.size)
  have hsz2 : w1.heap.size ≤ w2.heap.size := by have := hb2.size; simpa using this
  have HK2 := hid (HKS1.out.below hb2)
  have HO2 := hid (ho2.mono (base' := w1.heap.size) (by simp))
  clear HC2 ho2 HKS1
  go_wp2_with fail
  refine bodyPost_ret (v := .agg #[.slice ads_1 ds.length cds_1, .slice afs_2 fs.length cfs_2]) (by simp [results, Try.results39, go_sem, hcl1, hcl2, hy1]) rfl ⟨ads_1, cds_1, afs_2, cfs_2, rfl, ?_, ?_⟩
  · have hfin := (((HK2.out.setCell (p := ⟨w.heap.size + 1 + 1, 1, none⟩) (by simp) (.slice afs_2 fs.length cfs_2)).setCell (p := ⟨w.heap.size + 1, 0, none⟩) (by simp) (.slice ads_1 ds.length cds_1)).setCell (p := ⟨w.heap.size + 1, 1, none⟩) (by simp) (.slice afs_2 fs.length cfs_2))
    have hfin2 := ((((Keeps.refl (w.heap.size + 3) w2).setCell (p := ⟨w.heap.size + 1 + 1, 1, none⟩) (by simp) (.slice afs_2 fs.length cfs_2)).setCell (p := ⟨w.heap.size + 1, 0, none⟩) (by simp) (.slice ads_1 ds.length cds_1)).setCell (p := ⟨w.heap.size + 1, 1, none⟩) (by simp) (.slice afs_2 fs.length cfs_2))
    have hp := (PartAll.cons (HO1.out.part.keeps hfin (by first | exact Nat.le_refl _ | omega) (Nat.le_refl _)) (PartAll.cons (HO2.out.part.keeps hfin2 (by first | exact Nat.le_refl _ | omega) (Nat.le_refl _)) (PartAll.nil _ w2.heap.size w2.heap.size) (Nat.le_refl _) (by omega) (by omega)) (Nat.le_refl _) (by omega) (by omega))
    exact OwnS.mono (base := w.heap.size + 3) hp.own (by omega)
  · exact (((hbw2.setCell (by simp; try omega) _).setCell (by simp; try omega) _).setCell (by simp; try omega) _)

theorem infoPg : (Try.prog.info? 61).map (fun i => (i.zero, i.size, i.bytes)) = some (some (.agg #[.slice none 0 0, .slice none 0 0]), 2, 48) := by kernel_rfl
end Go.Proofs.Ytdcifcfkjhpokaa

namespace Go.Proofs.Ytdcifcfkjhpokaa
open Go.ChangeShapes Go.WideShapes Go.ChangeAt Go.RowKit
open Go.Sort (grow)
set_option linter.unusedVariables false

abbrev EqCon : Prop := ∀ (n : ByteArray) (fs : List Ty) (afs : Option Addr) (cfs : Nat) (afs' : Option Addr) (cfs' : Nat) (w : World), RdS w (Con.d (Con.mk n fs)) [.string n, .slice afs fs.length cfs] → RdS w (Con.d (Con.mk n fs)) [.string n, .slice afs' fs.length cfs'] →
  Calls Try.prog 162 #[.agg #[.string n, .slice afs fs.length cfs], .agg #[.string n, .slice afs' fs.length cfs']] w fun e w' => e = .returned (.bool true) ∧ Below w.heap.size w w'
theorem eqCon : EqCon := by
  intro n fs afs cfs afs' cfs' w hr hr'
  have hbk : Con.bulk (Con.mk n fs) = n.size + Ty.bulks fs := rfl
  obtain ⟨zn, hfs⟩ := hr.fCon
  obtain ⟨zn', hfs'⟩ := hr'.fCon
  have hc1 := fun (W : World) (hb : Below w.heap.size w W) => eqTys fs afs afs' cfs cfs' W (hfs.below hb) (hfs'.below hb)
  have HC1 := hid hc1
  have HX0 := hid (((Boxes.nil w).alloc #[.string n, .slice afs fs.length cfs] 140 (0, 0)).alloc #[.string n, .slice afs' fs.length cfs'] 140 (0, 0))
  have HB0 := hid (((Below.refl w.heap.size w).alloc (Nat.le_refl _) (.cells #[.string n, .slice afs fs.length cfs] 140)).alloc (by simp) (.cells #[.string n, .slice afs' fs.length cfs'] 140))
  clear hr hr' hbk hc1 hfs hfs'
  go_enter Try.func162, Try.ntmps162
  go_wp2_with fail
  refine (HC1.out _ HB0.out).mono ?_
  rintro e w1 ⟨rfl, hb1⟩
  have hbw1 := HB0.out.trans (hb1.mono (by simp; omega))
  have hx1 := HX0.out.below hb1
  have HX1 := hid hx1
  clear hx1 hb1 HC1
  go_wp2_with fail
  go_ret
  exact ⟨rfl, hbw1⟩

theorem eqCons (ts : List Con) (a a' : Option Addr) (c c' : Nat) (w : World) (hr : RdL w (Con.ds ts) (.slice a ts.length c)) (hr' : RdL w (Con.ds ts) (.slice a' ts.length c')) :
    Calls Try.prog 146 #[.slice a ts.length c, .slice a' ts.length c'] w fun e w' => e = .returned (.bool true) ∧ Below w.heap.size w w' := by
  obtain ⟨_, _, e, h2, h3, h4⟩ := hr.eCon
  simp only [Value.slice.injEq, true_and] at e
  obtain ⟨rfl, rfl⟩ := e
  obtain ⟨_, _, e, h2', h3', h4'⟩ := hr'.eCon
  simp only [Value.slice.injEq, true_and] at e
  obtain ⟨rfl, rfl⟩ := e
  have H4 := hid h4
  have H4' := hid h4'
  clear hr h4 hr' h4'
  go_enter Try.func146, Try.ntmps146
  go_wp2_with fail
  go_loopw [5] (fun i wr => ∃ (j : Nat), j ≤ ts.length ∧ i = .int .i64 j ∧ Below w.heap.size w wr) (fun i _ => ts.length - (intOf i).toNat)
  case atStart => exact ⟨0, by omega, rfl, Below.refl _ _⟩
  case round =>
    obtain ⟨j, hj, rfl, hb⟩ := hrel
    by_cases hlt : j < ts.length
    · obtain ⟨b, o, rfl, hbl, hall⟩ := H4.out (by omega)
      obtain ⟨b', o', rfl, hbl', hall'⟩ := H4'.out (by omega)
      obtain ⟨t, ht⟩ : ∃ t, ts[j]? = some t := ⟨_, List.getElem?_eq_getElem hlt⟩
      obtain ⟨n1, fs1⟩ := t
      obtain ⟨afs1, cfs1, q0, q1, hrk⟩ := hall j n1 fs1 ht
      obtain ⟨afs2, cfs2, p0, p1, hrk'⟩ := hall' j n1 fs1 ht
      clear hall H4 hall' H4'
      have d0 := cell_regrown ((hb.cell (p := ⟨b, o + j * 2, none⟩) hbl).trans q0)
      have d2 := cell_regrown ((hb.cell (p := ⟨b', o' + j * 2, none⟩) hbl').trans p0)
      have d1 := cell_regrown ((hb.cell (p := ⟨b, o + j * 2 + 1, none⟩) hbl).trans q1)
      have d3 := cell_regrown ((hb.cell (p := ⟨b', o' + j * 2 + 1, none⟩) hbl').trans p1)
      have hbg := Con.bulk_get ts j _ ht
      have hc := fun d os => Calls.regrown_of (eqCon n1 fs1 afs1 cfs1 afs2 cfs2 (grow (redrawn wr d) os) ((hrk.below hb).below (below_regrown wr d os)) ((hrk'.below hb).below (below_regrown wr d os)))
      have HC := hid hc
      clear ht hrk hrk' q0 q1 p0 p1 hc
      go_wp2_with fail
      refine wp_region_quiet_below (by kernel_rfl) (by kernel_rfl) ?_
      repeat (quiet_step (exact HC.out _ _))
      refine wpQuiet_nil ?_
      intro _ hw'
      obtain ⟨⟨dq, osq⟩, hw''⟩ := hw'
      subst hw''
      have hbq := hb.trans ((below_regrown wr dq osq).mono hb.size)
      clear HC d0 d1 d2 d3
      go_wp2_with fail
      go_roundw
      case rel => exact ⟨j + 1, by omega, by go_num, hbq⟩
      case measure => simp [intOf]; omega
    · go_wp2_with fail
      go_ret
      exact ⟨rfl, hb⟩

end Go.Proofs.Ytdcifcfkjhpokaa

namespace Go.Proofs.Ytdcifcfkjhpokaa
open Go.ChangeShapes Go.WideShapes Go.ChangeAt Go.RowKit
open Go.Sort (grow)
set_option linter.unusedVariables false

abbrev EqDat : Prop := ∀ (n : ByteArray) (qs : List Con) (aqs : Option Addr) (cqs : Nat) (aqs' : Option Addr) (cqs' : Nat) (w : World), RdS w (Dat.d (Dat.mk n qs)) [.string n, .slice aqs qs.length cqs] → RdS w (Dat.d (Dat.mk n qs)) [.string n, .slice aqs' qs.length cqs'] →
  Calls Try.prog 122 #[.agg #[.string n, .slice aqs qs.length cqs], .agg #[.string n, .slice aqs' qs.length cqs']] w fun e w' => e = .returned (.bool true) ∧ Below w.heap.size w w'
theorem eqDat : EqDat := by
  intro n qs aqs cqs aqs' cqs' w hr hr'
  have hbk : Dat.bulk (Dat.mk n qs) = n.size + Con.bulks qs := rfl
  obtain ⟨zn, hqs⟩ := hr.fDat
  obtain ⟨zn', hqs'⟩ := hr'.fDat
  have hc1 := fun (W : World) (hb : Below w.heap.size w W) => eqCons qs aqs aqs' cqs cqs' W (hqs.below hb) (hqs'.below hb)
  have HC1 := hid hc1
  have HX0 := hid (((Boxes.nil w).alloc #[.string n, .slice aqs qs.length cqs] 96 (0, 0)).alloc #[.string n, .slice aqs' qs.length cqs'] 96 (0, 0))
  have HB0 := hid (((Below.refl w.heap.size w).alloc (Nat.le_refl _) (.cells #[.string n, .slice aqs qs.length cqs] 96)).alloc (by simp) (.cells #[.string n, .slice aqs' qs.length cqs'] 96))
  clear hr hr' hbk hc1 hqs hqs'
  go_enter Try.func122, Try.ntmps122
  go_wp2_with fail
  refine (HC1.out _ HB0.out).mono ?_
  rintro e w1 ⟨rfl, hb1⟩
  have hbw1 := HB0.out.trans (hb1.mono (by simp; omega))
  have hx1 := HX0.out.below hb1
  have HX1 := hid hx1
  clear hx1 hb1 HC1
  go_wp2_with fail
  go_ret
  exact ⟨rfl, hbw1⟩

theorem eqDats (ts : List Dat) (a a' : Option Addr) (c c' : Nat) (w : World) (hr : RdL w (Dat.ds ts) (.slice a ts.length c)) (hr' : RdL w (Dat.ds ts) (.slice a' ts.length c')) :
    Calls Try.prog 83 #[.slice a ts.length c, .slice a' ts.length c'] w fun e w' => e = .returned (.bool true) ∧ Below w.heap.size w w' := by
  obtain ⟨_, _, e, h2, h3, h4⟩ := hr.eDat
  simp only [Value.slice.injEq, true_and] at e
  obtain ⟨rfl, rfl⟩ := e
  obtain ⟨_, _, e, h2', h3', h4'⟩ := hr'.eDat
  simp only [Value.slice.injEq, true_and] at e
  obtain ⟨rfl, rfl⟩ := e
  have H4 := hid h4
  have H4' := hid h4'
  clear hr h4 hr' h4'
  go_enter Try.func83, Try.ntmps83
  go_wp2_with fail
  go_loopw [5] (fun i wr => ∃ (j : Nat), j ≤ ts.length ∧ i = .int .i64 j ∧ Below w.heap.size w wr) (fun i _ => ts.length - (intOf i).toNat)
  case atStart => exact ⟨0, by omega, rfl, Below.refl _ _⟩
  case round =>
    obtain ⟨j, hj, rfl, hb⟩ := hrel
    by_cases hlt : j < ts.length
    · obtain ⟨b, o, rfl, hbl, hall⟩ := H4.out (by omega)
      obtain ⟨b', o', rfl, hbl', hall'⟩ := H4'.out (by omega)
      obtain ⟨t, ht⟩ : ∃ t, ts[j]? = some t := ⟨_, List.getElem?_eq_getElem hlt⟩
      obtain ⟨n1, qs1⟩ := t
      obtain ⟨aqs1, cqs1, q0, q1, hrk⟩ := hall j n1 qs1 ht
      obtain ⟨aqs2, cqs2, p0, p1, hrk'⟩ := hall' j n1 qs1 ht
      clear hall H4 hall' H4'
      have d0 := cell_regrown ((hb.cell (p := ⟨b, o + j * 2, none⟩) hbl).trans q0)
      have d2 := cell_regrown ((hb.cell (p := ⟨b', o' + j * 2, none⟩) hbl').trans p0)
      have d1 := cell_regrown ((hb.cell (p := ⟨b, o + j * 2 + 1, none⟩) hbl).trans q1)
      have d3 := cell_regrown ((hb.cell (p := ⟨b', o' + j * 2 + 1, none⟩) hbl').trans p1)
      have hbg := Dat.bulk_get ts j _ ht
      have hc := fun d os => Calls.regrown_of (eqDat n1 qs1 aqs1 cqs1 aqs2 cqs2 (grow (redrawn wr d) os) ((hrk.below hb).below (below_regrown wr d os)) ((hrk'.below hb).below (below_regrown wr d os)))
      have HC := hid hc
      clear ht hrk hrk' q0 q1 p0 p1 hc
      go_wp2_with fail
      refine wp_region_quiet_below (by kernel_rfl) (by kernel_rfl) ?_
      repeat (quiet_step (exact HC.out _ _))
      refine wpQuiet_nil ?_
      intro _ hw'
      obtain ⟨⟨dq, osq⟩, hw''⟩ := hw'
      subst hw''
      have hbq := hb.trans ((below_regrown wr dq osq).mono hb.size)
      clear HC d0 d1 d2 d3
      go_wp2_with fail
      go_roundw
      case rel => exact ⟨j + 1, by omega, by go_num, hbq⟩
      case measure => simp [intOf]; omega
    · go_wp2_with fail
      go_ret
      exact ⟨rfl, hb⟩

end Go.Proofs.Ytdcifcfkjhpokaa

namespace Go.Proofs.Ytdcifcfkjhpokaa
open Go.ChangeShapes Go.WideShapes Go.ChangeAt Go.RowKit
open Go.Sort (grow)
set_option linter.unusedVariables false

def EqTm (N : Nat) : Prop := ∀ (k : Int) (u : Int) (n : ByteArray) (tk : Int) (tn : ByteArray) (tks : List Ty) (ns : List ByteArray) (ks : List Tm) (atks : Option Addr) (ctks : Nat) (ans : Option Addr) (cns : Nat) (aks : Option Addr) (cks : Nat) (atks' : Option Addr) (ctks' : Nat) (ans' : Option Addr) (cns' : Nat) (aks' : Option Addr) (cks' : Nat) (w : World), Tm.bulk (Tm.mk k u n (Ty.mk tk tn tks) ns ks) < N → RdS w (Tm.d (Tm.mk k u n (Ty.mk tk tn tks) ns ks)) [.int .i64 k, .int .i64 u, .string n, .int .i64 tk, .string tn, .slice atks tks.length ctks, .slice ans ns.length cns, .slice aks ks.length cks] → RdS w (Tm.d (Tm.mk k u n (Ty.mk tk tn tks) ns ks)) [.int .i64 k, .int .i64 u, .string n, .int .i64 tk, .string tn, .slice atks' tks.length ctks', .slice ans' ns.length cns', .slice aks' ks.length cks'] →
  Calls Try.prog 17 #[.agg #[.int .i64 k, .int .i64 u, .string n, .int .i64 tk, .string tn, .slice atks tks.length ctks, .slice ans ns.length cns, .slice aks ks.length cks], .agg #[.int .i64 k, .int .i64 u, .string n, .int .i64 tk, .string tn, .slice atks' tks.length ctks', .slice ans' ns.length cns', .slice aks' ks.length cks']] w fun e w' => e = .returned (.bool true) ∧ Below w.heap.size w w'
def EqTms (N : Nat) : Prop := ∀ (ts : List Tm) (a a' : Option Addr) (c c' : Nat) (w : World), Tm.bulks ts < N → RdL w (Tm.ds ts) (.slice a ts.length c) → RdL w (Tm.ds ts) (.slice a' ts.length c') →
  Calls Try.prog 55 #[.slice a ts.length c, .slice a' ts.length c'] w fun e w' => e = .returned (.bool true) ∧ Below w.heap.size w w'
theorem eqTm_step (N : Nat) (ih : EqTms N) : EqTm N := by
  intro k u n tk tn tks ns ks atks ctks ans cns aks cks atks' ctks' ans' cns' aks' cks' w hN hr hr'
  have hbk : Tm.bulk (Tm.mk k u n (Ty.mk tk tn tks) ns ks) = n.size + Ty.bulk (Ty.mk tk tn tks) + Sr.bulks ns + Tm.bulks ks := rfl
  obtain ⟨⟨lok, hik⟩, ⟨lou, hiu⟩, zn, ⟨⟨lotk, hitk⟩, ztn, htks⟩, hns, hks⟩ := hr.fTm
  obtain ⟨⟨lok', hik'⟩, ⟨lou', hiu'⟩, zn', ⟨⟨lotk', hitk'⟩, ztn', htks'⟩, hns', hks'⟩ := hr'.fTm
  have hc1 := fun (W : World) (hb : Below w.heap.size w W) => eqTy tk tn tks atks ctks atks' ctks' W ((RdS.subTm_t hr).below hb) ((RdS.subTm_t hr').below hb)
  have hc2 := fun (W : World) (hb : Below w.heap.size w W) => eqSrs ns ans ans' cns cns' W (hns.below hb) (hns'.below hb)
  have hc3 := fun (W : World) (hb : Below w.heap.size w W) => ih ks aks aks' cks cks' W (by omega) (hks.below hb) (hks'.below hb)
  have HC1 := hid hc1
  have HC2 := hid hc2
  have HC3 := hid hc3
  have HX0 := hid (((Boxes.nil w).alloc #[.int .i64 k, .int .i64 u, .string n, .int .i64 tk, .string tn, .slice atks tks.length ctks, .slice ans ns.length cns, .slice aks ks.length cks] 36 (0, 0)).alloc #[.int .i64 k, .int .i64 u, .string n, .int .i64 tk, .string tn, .slice atks' tks.length ctks', .slice ans' ns.length cns', .slice aks' ks.length cks'] 36 (0, 0))
  have HB0 := hid (((Below.refl w.heap.size w).alloc (Nat.le_refl _) (.cells #[.int .i64 k, .int .i64 u, .string n, .int .i64 tk, .string tn, .slice atks tks.length ctks, .slice ans ns.length cns, .slice aks ks.length cks] 36)).alloc (by simp) (.cells #[.int .i64 k, .int .i64 u, .string n, .int .i64 tk, .string tn, .slice atks' tks.length ctks', .slice ans' ns.length cns', .slice aks' ks.length cks'] 36))
  clear hr hr' hbk hc1 hc2 hc3 ih hN htks htks' hns hns' hks hks'
  go_enter Try.func17, Try.ntmps17
  go_wp2_with fail
  refine (HC1.out _ HB0.out).mono ?_
  rintro e w1 ⟨rfl, hb1⟩
  have hbw1 := HB0.out.trans (hb1.mono (by simp; omega))
  have hx1 := HX0.out.below hb1
  have g1_6 := hx1.at 1 6 rfl rfl
  have k1_6 := hx1.at 0 6 rfl rfl
  have g1_7 := hx1.at 1 7 rfl rfl
  have k1_7 := hx1.at 0 7 rfl rfl
  simp only [World.size_alloc] at k1_6 k1_7
  have HX1 := hid hx1
  clear hx1 hb1 HC1
  go_wp2_with fail
  refine (HC2.out _ hbw1).mono ?_
  rintro e w2 ⟨rfl, hb2⟩
  have hbw2 := hbw1.trans (hb2.mono (by exact hbw1.size))
  have hx2 := HX1.out.below hb2
  have g2_7 := hx2.at 1 7 rfl rfl
  have k2_7 := hx2.at 0 7 rfl rfl
  simp only [World.size_alloc] at k2_7
  have HX2 := hid hx2
  clear hx2 hb2 HC2
  go_wp2_with fail
  refine (HC3.out _ hbw2).mono ?_
  rintro e w3 ⟨rfl, hb3⟩
  have hbw3 := hbw2.trans (hb3.mono (by exact hbw2.size))
  have hx3 := HX2.out.below hb3
  have HX3 := hid hx3
  clear hx3 hb3 HC3
  go_wp2_with fail
  go_ret
  exact ⟨rfl, hbw3⟩

theorem eqTms_step (N : Nat) (ih : EqTm N) : EqTms (N + 1) := by
  intro ts a a' c c' w hN hr hr'
  obtain ⟨_, _, e, h2, h3, h4⟩ := hr.eTm
  simp only [Value.slice.injEq, true_and] at e
  obtain ⟨rfl, rfl⟩ := e
  obtain ⟨_, _, e, h2', h3', h4'⟩ := hr'.eTm
  simp only [Value.slice.injEq, true_and] at e
  obtain ⟨rfl, rfl⟩ := e
  have H4 := hid h4
  have H4' := hid h4'
  have IH := hid ih
  clear hr h4 hr' h4' ih
  go_enter Try.func55, Try.ntmps55
  go_wp2_with fail
  go_loopw [5] (fun i wr => ∃ (j : Nat), j ≤ ts.length ∧ i = .int .i64 j ∧ Below w.heap.size w wr) (fun i _ => ts.length - (intOf i).toNat)
  case atStart => exact ⟨0, by omega, rfl, Below.refl _ _⟩
  case round =>
    obtain ⟨j, hj, rfl, hb⟩ := hrel
    by_cases hlt : j < ts.length
    · obtain ⟨b, o, rfl, hbl, hall⟩ := H4.out (by omega)
      obtain ⟨b', o', rfl, hbl', hall'⟩ := H4'.out (by omega)
      obtain ⟨t, ht⟩ : ∃ t, ts[j]? = some t := ⟨_, List.getElem?_eq_getElem hlt⟩
      obtain ⟨k1, u1, n1, ⟨tk1, tn1, tks1⟩, ns1, ks1⟩ := t
      obtain ⟨atks1, ctks1, ans1, cns1, aks1, cks1, q0, q1, q2, q3, q4, q5, q6, q7, hrk⟩ := hall j k1 u1 n1 tk1 tn1 tks1 ns1 ks1 ht
      obtain ⟨atks2, ctks2, ans2, cns2, aks2, cks2, p0, p1, p2, p3, p4, p5, p6, p7, hrk'⟩ := hall' j k1 u1 n1 tk1 tn1 tks1 ns1 ks1 ht
      clear hall H4 hall' H4'
      have d0 := cell_regrown ((hb.cell (p := ⟨b, o + j * 8, none⟩) hbl).trans q0)
      have d8 := cell_regrown ((hb.cell (p := ⟨b', o' + j * 8, none⟩) hbl').trans p0)
      have d1 := cell_regrown ((hb.cell (p := ⟨b, o + j * 8 + 1, none⟩) hbl).trans q1)
      have d9 := cell_regrown ((hb.cell (p := ⟨b', o' + j * 8 + 1, none⟩) hbl').trans p1)
      have d2 := cell_regrown ((hb.cell (p := ⟨b, o + j * 8 + 2, none⟩) hbl).trans q2)
      have d10 := cell_regrown ((hb.cell (p := ⟨b', o' + j * 8 + 2, none⟩) hbl').trans p2)
      have d3 := cell_regrown ((hb.cell (p := ⟨b, o + j * 8 + 3, none⟩) hbl).trans q3)
      have d11 := cell_regrown ((hb.cell (p := ⟨b', o' + j * 8 + 3, none⟩) hbl').trans p3)
      have d4 := cell_regrown ((hb.cell (p := ⟨b, o + j * 8 + 4, none⟩) hbl).trans q4)
      have d12 := cell_regrown ((hb.cell (p := ⟨b', o' + j * 8 + 4, none⟩) hbl').trans p4)
      have d5 := cell_regrown ((hb.cell (p := ⟨b, o + j * 8 + 5, none⟩) hbl).trans q5)
      have d13 := cell_regrown ((hb.cell (p := ⟨b', o' + j * 8 + 5, none⟩) hbl').trans p5)
      have d6 := cell_regrown ((hb.cell (p := ⟨b, o + j * 8 + 6, none⟩) hbl).trans q6)
      have d14 := cell_regrown ((hb.cell (p := ⟨b', o' + j * 8 + 6, none⟩) hbl').trans p6)
      have d7 := cell_regrown ((hb.cell (p := ⟨b, o + j * 8 + 7, none⟩) hbl).trans q7)
      have d15 := cell_regrown ((hb.cell (p := ⟨b', o' + j * 8 + 7, none⟩) hbl').trans p7)
      have hbg := Tm.bulk_get ts j _ ht
      have hc := fun d os => Calls.regrown_of (IH.out k1 u1 n1 tk1 tn1 tks1 ns1 ks1 atks1 ctks1 ans1 cns1 aks1 cks1 atks2 ctks2 ans2 cns2 aks2 cks2 (grow (redrawn wr d) os) (by omega) ((hrk.below hb).below (below_regrown wr d os)) ((hrk'.below hb).below (below_regrown wr d os)))
      have HC := hid hc
      clear ht hrk hrk' q0 q1 q2 q3 q4 q5 q6 q7 p0 p1 p2 p3 p4 p5 p6 p7 hc
      go_wp2_with fail
      refine wp_region_quiet_below (by kernel_rfl) (by kernel_rfl) ?_
      repeat (quiet_step (exact HC.out _ _))
      refine wpQuiet_nil ?_
      intro _ hw'
      obtain ⟨⟨dq, osq⟩, hw''⟩ := hw'
      subst hw''
      have hbq := hb.trans ((below_regrown wr dq osq).mono hb.size)
      clear HC d0 d1 d2 d3 d4 d5 d6 d7 d8 d9 d10 d11 d12 d13 d14 d15
      go_wp2_with fail
      go_roundw
      case rel => exact ⟨j + 1, by omega, by go_num, hbq⟩
      case measure => simp [intOf]; omega
    · go_wp2_with fail
      go_ret
      exact ⟨rfl, hb⟩

theorem eqTm_all : ∀ M, EqTm M ∧ EqTms M
  | 0 => ⟨fun _ _ _ _ _ _ _ _ _ _ _ _ _ _ _ _ _ _ _ _ _ h => absurd h (by omega), fun _ _ _ _ _ _ h => absurd h (by omega)⟩
  | M + 1 => by
    have h := eqTm_all M
    have h2 := eqTms_step M h.1
    exact ⟨eqTm_step (M + 1) h2, h2⟩
theorem eqTm (k : Int) (u : Int) (n : ByteArray) (tk : Int) (tn : ByteArray) (tks : List Ty) (ns : List ByteArray) (ks : List Tm) (atks : Option Addr) (ctks : Nat) (ans : Option Addr) (cns : Nat) (aks : Option Addr) (cks : Nat) (atks' : Option Addr) (ctks' : Nat) (ans' : Option Addr) (cns' : Nat) (aks' : Option Addr) (cks' : Nat) (w : World) (hr : RdS w (Tm.d (Tm.mk k u n (Ty.mk tk tn tks) ns ks)) [.int .i64 k, .int .i64 u, .string n, .int .i64 tk, .string tn, .slice atks tks.length ctks, .slice ans ns.length cns, .slice aks ks.length cks]) (hr' : RdS w (Tm.d (Tm.mk k u n (Ty.mk tk tn tks) ns ks)) [.int .i64 k, .int .i64 u, .string n, .int .i64 tk, .string tn, .slice atks' tks.length ctks', .slice ans' ns.length cns', .slice aks' ks.length cks']) :
    Calls Try.prog 17 #[.agg #[.int .i64 k, .int .i64 u, .string n, .int .i64 tk, .string tn, .slice atks tks.length ctks, .slice ans ns.length cns, .slice aks ks.length cks], .agg #[.int .i64 k, .int .i64 u, .string n, .int .i64 tk, .string tn, .slice atks' tks.length ctks', .slice ans' ns.length cns', .slice aks' ks.length cks']] w fun e w' => e = .returned (.bool true) ∧ Below w.heap.size w w' :=
  (eqTm_all (Tm.bulk (Tm.mk k u n (Ty.mk tk tn tks) ns ks) + 1)).1 k u n tk tn tks ns ks atks ctks ans cns aks cks atks' ctks' ans' cns' aks' cks' w (by omega) hr hr'
theorem eqTms (ts : List Tm) (a a' : Option Addr) (c c' : Nat) (w : World) (hr : RdL w (Tm.ds ts) (.slice a ts.length c)) (hr' : RdL w (Tm.ds ts) (.slice a' ts.length c')) :
    Calls Try.prog 55 #[.slice a ts.length c, .slice a' ts.length c'] w fun e w' => e = .returned (.bool true) ∧ Below w.heap.size w w' :=
  (eqTm_all (Tm.bulks ts + 1)).2 ts a a' c c' w (by omega) hr hr'

end Go.Proofs.Ytdcifcfkjhpokaa

namespace Go.Proofs.Ytdcifcfkjhpokaa
open Go.ChangeShapes Go.WideShapes Go.ChangeAt Go.RowKit
open Go.Sort (grow)
set_option linter.unusedVariables false

abbrev EqDf : Prop := ∀ (n : ByteArray) (tk : Int) (tn : ByteArray) (tks : List Ty) (bk : Int) (bu : Int) (bn : ByteArray) (btk : Int) (btn : ByteArray) (btks : List Ty) (bns : List ByteArray) (bks : List Tm) (atks : Option Addr) (ctks : Nat) (abtks : Option Addr) (cbtks : Nat) (abns : Option Addr) (cbns : Nat) (abks : Option Addr) (cbks : Nat) (atks' : Option Addr) (ctks' : Nat) (abtks' : Option Addr) (cbtks' : Nat) (abns' : Option Addr) (cbns' : Nat) (abks' : Option Addr) (cbks' : Nat) (w : World), RdS w (Df.d (Df.mk n (Ty.mk tk tn tks) (Tm.mk bk bu bn (Ty.mk btk btn btks) bns bks))) [.string n, .int .i64 tk, .string tn, .slice atks tks.length ctks, .int .i64 bk, .int .i64 bu, .string bn, .int .i64 btk, .string btn, .slice abtks btks.length cbtks, .slice abns bns.length cbns, .slice abks bks.length cbks] → RdS w (Df.d (Df.mk n (Ty.mk tk tn tks) (Tm.mk bk bu bn (Ty.mk btk btn btks) bns bks))) [.string n, .int .i64 tk, .string tn, .slice atks' tks.length ctks', .int .i64 bk, .int .i64 bu, .string bn, .int .i64 btk, .string btn, .slice abtks' btks.length cbtks', .slice abns' bns.length cbns', .slice abks' bks.length cbks'] →
  Calls Try.prog 123 #[.agg #[.string n, .int .i64 tk, .string tn, .slice atks tks.length ctks, .int .i64 bk, .int .i64 bu, .string bn, .int .i64 btk, .string btn, .slice abtks btks.length cbtks, .slice abns bns.length cbns, .slice abks bks.length cbks], .agg #[.string n, .int .i64 tk, .string tn, .slice atks' tks.length ctks', .int .i64 bk, .int .i64 bu, .string bn, .int .i64 btk, .string btn, .slice abtks' btks.length cbtks', .slice abns' bns.length cbns', .slice abks' bks.length cbks']] w fun e w' => e = .returned (.bool true) ∧ Below w.heap.size w w'
theorem eqDf : EqDf := by
  intro n tk tn tks bk bu bn btk btn btks bns bks atks ctks abtks cbtks abns cbns abks cbks atks' ctks' abtks' cbtks' abns' cbns' abks' cbks' w hr hr'
  have hbk : Df.bulk (Df.mk n (Ty.mk tk tn tks) (Tm.mk bk bu bn (Ty.mk btk btn btks) bns bks)) = n.size + Ty.bulk (Ty.mk tk tn tks) + Tm.bulk (Tm.mk bk bu bn (Ty.mk btk btn btks) bns bks) := rfl
  obtain ⟨zn, ⟨⟨lotk, hitk⟩, ztn, htks⟩, ⟨⟨lobk, hibk⟩, ⟨lobu, hibu⟩, zbn, ⟨⟨lobtk, hibtk⟩, zbtn, hbtks⟩, hbns, hbks⟩⟩ := hr.fDf
  obtain ⟨zn', ⟨⟨lotk', hitk'⟩, ztn', htks'⟩, ⟨⟨lobk', hibk'⟩, ⟨lobu', hibu'⟩, zbn', ⟨⟨lobtk', hibtk'⟩, zbtn', hbtks'⟩, hbns', hbks'⟩⟩ := hr'.fDf
  have hc1 := fun (W : World) (hb : Below w.heap.size w W) => eqTy tk tn tks atks ctks atks' ctks' W ((RdS.subDf_t hr).below hb) ((RdS.subDf_t hr').below hb)
  have hc2 := fun (W : World) (hb : Below w.heap.size w W) => eqTm bk bu bn btk btn btks bns bks abtks cbtks abns cbns abks cbks abtks' cbtks' abns' cbns' abks' cbks' W ((RdS.subDf_b hr).below hb) ((RdS.subDf_b hr').below hb)
  have HC1 := hid hc1
  have HC2 := hid hc2
  have HX0 := hid (((Boxes.nil w).alloc #[.string n, .int .i64 tk, .string tn, .slice atks tks.length ctks, .int .i64 bk, .int .i64 bu, .string bn, .int .i64 btk, .string btn, .slice abtks btks.length cbtks, .slice abns bns.length cbns, .slice abks bks.length cbks] 98 (0, 0)).alloc #[.string n, .int .i64 tk, .string tn, .slice atks' tks.length ctks', .int .i64 bk, .int .i64 bu, .string bn, .int .i64 btk, .string btn, .slice abtks' btks.length cbtks', .slice abns' bns.length cbns', .slice abks' bks.length cbks'] 98 (0, 0))
  have HB0 := hid (((Below.refl w.heap.size w).alloc (Nat.le_refl _) (.cells #[.string n, .int .i64 tk, .string tn, .slice atks tks.length ctks, .int .i64 bk, .int .i64 bu, .string bn, .int .i64 btk, .string btn, .slice abtks btks.length cbtks, .slice abns bns.length cbns, .slice abks bks.length cbks] 98)).alloc (by simp) (.cells #[.string n, .int .i64 tk, .string tn, .slice atks' tks.length ctks', .int .i64 bk, .int .i64 bu, .string bn, .int .i64 btk, .string btn, .slice abtks' btks.length cbtks', .slice abns' bns.length cbns', .slice abks' bks.length cbks'] 98))
  clear hr hr' hbk hc1 hc2 htks htks' hbtks hbtks' hbns hbns' hbks hbks'
  go_enter Try.func123, Try.ntmps123
  go_wp2_with fail
  refine (HC1.out _ HB0.out).mono ?_
  rintro e w1 ⟨rfl, hb1⟩
  have hbw1 := HB0.out.trans (hb1.mono (by simp; omega))
  have hx1 := HX0.out.below hb1
  have g1_4 := hx1.at 1 4 rfl rfl
  have k1_4 := hx1.at 0 4 rfl rfl
  have g1_5 := hx1.at 1 5 rfl rfl
  have k1_5 := hx1.at 0 5 rfl rfl
  have g1_6 := hx1.at 1 6 rfl rfl
  have k1_6 := hx1.at 0 6 rfl rfl
  have g1_7 := hx1.at 1 7 rfl rfl
  have k1_7 := hx1.at 0 7 rfl rfl
  have g1_8 := hx1.at 1 8 rfl rfl
  have k1_8 := hx1.at 0 8 rfl rfl
  have g1_9 := hx1.at 1 9 rfl rfl
  have k1_9 := hx1.at 0 9 rfl rfl
  have g1_10 := hx1.at 1 10 rfl rfl
  have k1_10 := hx1.at 0 10 rfl rfl
  have g1_11 := hx1.at 1 11 rfl rfl
  have k1_11 := hx1.at 0 11 rfl rfl
  simp only [World.size_alloc] at k1_4 k1_5 k1_6 k1_7 k1_8 k1_9 k1_10 k1_11
  have HX1 := hid hx1
  clear hx1 hb1 HC1
  go_wp2_with fail
  refine (HC2.out _ hbw1).mono ?_
  rintro e w2 ⟨rfl, hb2⟩
  have hbw2 := hbw1.trans (hb2.mono (by exact hbw1.size))
  have hx2 := HX1.out.below hb2
  have HX2 := hid hx2
  clear hx2 hb2 HC2
  go_wp2_with fail
  go_ret
  exact ⟨rfl, hbw2⟩

theorem eqDfs (ts : List Df) (a a' : Option Addr) (c c' : Nat) (w : World) (hr : RdL w (Df.ds ts) (.slice a ts.length c)) (hr' : RdL w (Df.ds ts) (.slice a' ts.length c')) :
    Calls Try.prog 84 #[.slice a ts.length c, .slice a' ts.length c'] w fun e w' => e = .returned (.bool true) ∧ Below w.heap.size w w' := by
  obtain ⟨_, _, e, h2, h3, h4⟩ := hr.eDf
  simp only [Value.slice.injEq, true_and] at e
  obtain ⟨rfl, rfl⟩ := e
  obtain ⟨_, _, e, h2', h3', h4'⟩ := hr'.eDf
  simp only [Value.slice.injEq, true_and] at e
  obtain ⟨rfl, rfl⟩ := e
  have H4 := hid h4
  have H4' := hid h4'
  clear hr h4 hr' h4'
  go_enter Try.func84, Try.ntmps84
  go_wp2_with fail
  go_loopw [5] (fun i wr => ∃ (j : Nat), j ≤ ts.length ∧ i = .int .i64 j ∧ Below w.heap.size w wr) (fun i _ => ts.length - (intOf i).toNat)
  case atStart => exact ⟨0, by omega, rfl, Below.refl _ _⟩
  case round =>
    obtain ⟨j, hj, rfl, hb⟩ := hrel
    by_cases hlt : j < ts.length
    · obtain ⟨b, o, rfl, hbl, hall⟩ := H4.out (by omega)
      obtain ⟨b', o', rfl, hbl', hall'⟩ := H4'.out (by omega)
      obtain ⟨t, ht⟩ : ∃ t, ts[j]? = some t := ⟨_, List.getElem?_eq_getElem hlt⟩
      obtain ⟨n1, ⟨tk1, tn1, tks1⟩, ⟨bk1, bu1, bn1, ⟨btk1, btn1, btks1⟩, bns1, bks1⟩⟩ := t
      obtain ⟨atks1, ctks1, abtks1, cbtks1, abns1, cbns1, abks1, cbks1, q0, q1, q2, q3, q4, q5, q6, q7, q8, q9, q10, q11, hrk⟩ := hall j n1 tk1 tn1 tks1 bk1 bu1 bn1 btk1 btn1 btks1 bns1 bks1 ht
      obtain ⟨atks2, ctks2, abtks2, cbtks2, abns2, cbns2, abks2, cbks2, p0, p1, p2, p3, p4, p5, p6, p7, p8, p9, p10, p11, hrk'⟩ := hall' j n1 tk1 tn1 tks1 bk1 bu1 bn1 btk1 btn1 btks1 bns1 bks1 ht
      clear hall H4 hall' H4'
      have d0 := cell_regrown ((hb.cell (p := ⟨b, o + j * 12, none⟩) hbl).trans q0)
      have d12 := cell_regrown ((hb.cell (p := ⟨b', o' + j * 12, none⟩) hbl').trans p0)
      have d1 := cell_regrown ((hb.cell (p := ⟨b, o + j * 12 + 1, none⟩) hbl).trans q1)
      have d13 := cell_regrown ((hb.cell (p := ⟨b', o' + j * 12 + 1, none⟩) hbl').trans p1)
      have d2 := cell_regrown ((hb.cell (p := ⟨b, o + j * 12 + 2, none⟩) hbl).trans q2)
      have d14 := cell_regrown ((hb.cell (p := ⟨b', o' + j * 12 + 2, none⟩) hbl').trans p2)
      have d3 := cell_regrown ((hb.cell (p := ⟨b, o + j * 12 + 3, none⟩) hbl).trans q3)
      have d15 := cell_regrown ((hb.cell (p := ⟨b', o' + j * 12 + 3, none⟩) hbl').trans p3)
      have d4 := cell_regrown ((hb.cell (p := ⟨b, o + j * 12 + 4, none⟩) hbl).trans q4)
      have d16 := cell_regrown ((hb.cell (p := ⟨b', o' + j * 12 + 4, none⟩) hbl').trans p4)
      have d5 := cell_regrown ((hb.cell (p := ⟨b, o + j * 12 + 5, none⟩) hbl).trans q5)
      have d17 := cell_regrown ((hb.cell (p := ⟨b', o' + j * 12 + 5, none⟩) hbl').trans p5)
      have d6 := cell_regrown ((hb.cell (p := ⟨b, o + j * 12 + 6, none⟩) hbl).trans q6)
      have d18 := cell_regrown ((hb.cell (p := ⟨b', o' + j * 12 + 6, none⟩) hbl').trans p6)
      have d7 := cell_regrown ((hb.cell (p := ⟨b, o + j * 12 + 7, none⟩) hbl).trans q7)
      have d19 := cell_regrown ((hb.cell (p := ⟨b', o' + j * 12 + 7, none⟩) hbl').trans p7)
      have d8 := cell_regrown ((hb.cell (p := ⟨b, o + j * 12 + 8, none⟩) hbl).trans q8)
      have d20 := cell_regrown ((hb.cell (p := ⟨b', o' + j * 12 + 8, none⟩) hbl').trans p8)
      have d9 := cell_regrown ((hb.cell (p := ⟨b, o + j * 12 + 9, none⟩) hbl).trans q9)
      have d21 := cell_regrown ((hb.cell (p := ⟨b', o' + j * 12 + 9, none⟩) hbl').trans p9)
      have d10 := cell_regrown ((hb.cell (p := ⟨b, o + j * 12 + 10, none⟩) hbl).trans q10)
      have d22 := cell_regrown ((hb.cell (p := ⟨b', o' + j * 12 + 10, none⟩) hbl').trans p10)
      have d11 := cell_regrown ((hb.cell (p := ⟨b, o + j * 12 + 11, none⟩) hbl).trans q11)
      have d23 := cell_regrown ((hb.cell (p := ⟨b', o' + j * 12 + 11, none⟩) hbl').trans p11)
      have hbg := Df.bulk_get ts j _ ht
      have hc := fun d os => Calls.regrown_of (eqDf n1 tk1 tn1 tks1 bk1 bu1 bn1 btk1 btn1 btks1 bns1 bks1 atks1 ctks1 abtks1 cbtks1 abns1 cbns1 abks1 cbks1 atks2 ctks2 abtks2 cbtks2 abns2 cbns2 abks2 cbks2 (grow (redrawn wr d) os) ((hrk.below hb).below (below_regrown wr d os)) ((hrk'.below hb).below (below_regrown wr d os)))
      have HC := hid hc
      clear ht hrk hrk' q0 q1 q2 q3 q4 q5 q6 q7 q8 q9 q10 q11 p0 p1 p2 p3 p4 p5 p6 p7 p8 p9 p10 p11 hc
      go_wp2_with fail
      refine wp_region_quiet_below (by kernel_rfl) (by kernel_rfl) ?_
      repeat (quiet_step (exact HC.out _ _))
      refine wpQuiet_nil ?_
      intro _ hw'
      obtain ⟨⟨dq, osq⟩, hw''⟩ := hw'
      subst hw''
      have hbq := hb.trans ((below_regrown wr dq osq).mono hb.size)
      clear HC d0 d1 d2 d3 d4 d5 d6 d7 d8 d9 d10 d11 d12 d13 d14 d15 d16 d17 d18 d19 d20 d21 d22 d23
      go_wp2_with fail
      go_roundw
      case rel => exact ⟨j + 1, by omega, by go_num, hbq⟩
      case measure => simp [intOf]; omega
    · go_wp2_with fail
      go_ret
      exact ⟨rfl, hb⟩

end Go.Proofs.Ytdcifcfkjhpokaa

namespace Go.Proofs.Ytdcifcfkjhpokaa
open Go.ChangeShapes Go.WideShapes Go.ChangeAt Go.RowKit
open Go.Sort (grow)
set_option linter.unusedVariables false

abbrev EqPg : Prop := ∀ (ds : List Dat) (fs : List Df) (ads : Option Addr) (cds : Nat) (afs : Option Addr) (cfs : Nat) (ads' : Option Addr) (cds' : Nat) (afs' : Option Addr) (cfs' : Nat) (w : World), RdS w (Pg.d (Pg.mk ds fs)) [.slice ads ds.length cds, .slice afs fs.length cfs] → RdS w (Pg.d (Pg.mk ds fs)) [.slice ads' ds.length cds', .slice afs' fs.length cfs'] →
  Calls Try.prog 41 #[.agg #[.slice ads ds.length cds, .slice afs fs.length cfs], .agg #[.slice ads' ds.length cds', .slice afs' fs.length cfs']] w fun e w' => e = .returned (.bool true) ∧ Below w.heap.size w w'
theorem eqPg : EqPg := by
  intro ds fs ads cds afs cfs ads' cds' afs' cfs' w hr hr'
  have hbk : Pg.bulk (Pg.mk ds fs) = Dat.bulks ds + Df.bulks fs := rfl
  obtain ⟨hds, hfs⟩ := hr.fPg
  obtain ⟨hds', hfs'⟩ := hr'.fPg
  have hc1 := fun (W : World) (hb : Below w.heap.size w W) => eqDats ds ads ads' cds cds' W (hds.below hb) (hds'.below hb)
  have hc2 := fun (W : World) (hb : Below w.heap.size w W) => eqDfs fs afs afs' cfs cfs' W (hfs.below hb) (hfs'.below hb)
  have HC1 := hid hc1
  have HC2 := hid hc2
  have HX0 := hid (((Boxes.nil w).alloc #[.slice ads ds.length cds, .slice afs fs.length cfs] 61 (0, 0)).alloc #[.slice ads' ds.length cds', .slice afs' fs.length cfs'] 61 (0, 0))
  have HB0 := hid (((Below.refl w.heap.size w).alloc (Nat.le_refl _) (.cells #[.slice ads ds.length cds, .slice afs fs.length cfs] 61)).alloc (by simp) (.cells #[.slice ads' ds.length cds', .slice afs' fs.length cfs'] 61))
  clear hr hr' hbk hc1 hc2 hds hds' hfs hfs'
  go_enter Try.func41, Try.ntmps41
  go_wp2_with fail
  refine (HC1.out _ HB0.out).mono ?_
  rintro e w1 ⟨rfl, hb1⟩
  have hbw1 := HB0.out.trans (hb1.mono (by simp; omega))
  have hx1 := HX0.out.below hb1
  have g1_1 := hx1.at 1 1 rfl rfl
  have k1_1 := hx1.at 0 1 rfl rfl
  simp only [World.size_alloc] at k1_1
  have HX1 := hid hx1
  clear hx1 hb1 HC1
  go_wp2_with fail
  refine (HC2.out _ hbw1).mono ?_
  rintro e w2 ⟨rfl, hb2⟩
  have hbw2 := hbw1.trans (hb2.mono (by exact hbw1.size))
  have hx2 := HX1.out.below hb2
  have HX2 := hid hx2
  clear hx2 hb2 HC2
  go_wp2_with fail
  go_ret
  exact ⟨rfl, hbw2⟩

end Go.Proofs.Ytdcifcfkjhpokaa

namespace Go.Proofs.Ytdcifcfkjhpokaa
open Go.ChangeShapes Go.WideShapes Go.ChangeAt Go.RowKit Go.BigFrame
open Go.Sort (grow)
set_option linter.unusedVariables false

def mainD (ds : List Dat) (fs : List Df) : Int × Int := if progOk ds fs then (if namedF fs ⟨#[109, 97, 105, 110]⟩ < 0 then (0, 3) else (namedF fs ⟨#[109, 97, 105, 110]⟩, 0)) else (0, 1)
theorem spec_MainDef (ds1 : List Dat) (fs1 : List Df) (ads1 : Option Addr) (cds1 : Nat) (afs1 : Option Addr) (cfs1 : Nat) (w : World) (hM : Pg.bulk (Pg.mk ds1 fs1) ≤ 1048576) (hr : RdS w (Pg.d (Pg.mk ds1 fs1)) [.slice ads1 ds1.length cds1, .slice afs1 fs1.length cfs1]) :
    Calls Try.prog 44 #[.agg #[.slice ads1 ds1.length cds1, .slice afs1 fs1.length cfs1]] w fun e w' => e = .returned (.tuple #[.int .i64 (mainD ds1 fs1).1, .int .i64 (mainD ds1 fs1).2]) ∧ Below w.heap.size w w' := by
  have hB := (Below.refl w.heap.size w).alloc (Nat.le_refl _) (.cells #[.slice ads1 ds1.length cds1, .slice afs1 fs1.length cfs1] 61)
  have HX0 := hid ((Boxes.nil w).alloc #[.slice ads1 ds1.length cds1, .slice afs1 fs1.length cfs1] 61 (0, 0))
  have hc := spec_l03Program ds1 fs1 ads1 cds1 afs1 cfs1 w.heap.size 0 (w.alloc (.cells #[.slice ads1 ds1.length cds1, .slice afs1 fs1.length cfs1] 61)) hM (HX0.out.at 0 0 rfl rfl) (HX0.out.at 0 1 rfl rfl) (hr.below hB)
  have hn := fun W (hW : Below w.heap.size w W) => spec_l03Named fs1 afs1 cfs1 ⟨#[109, 97, 105, 110]⟩ W (hr.fPg.2.below hW)
  have HB := hid hB
  clear hB hr hM
  by_cases hk : progOk ds1 fs1 = true
  case neg =>
    replace hk := (Bool.not_eq_true _).mp hk
    have HF := hid (show mainD ds1 fs1 = (0, 1) by simp [mainD, hk])
    rw [hk] at hc
    have HC := hid hc
    clear hc hk hn
    go_enter Try.func44, Try.ntmps44
    go_wp2_with fail
    refine HC.out.mono ?_
    rintro e w1 ⟨rfl, hb⟩
    have HB1 := hid (HB.out.trans (hb.mono HB.out.size))
    clear hb
    go_wp2_with fail
    go_ret2
    exact ⟨by rw [HF.out]; rfl, HB1.out⟩
  case pos =>
    by_cases hq : namedF fs1 ⟨#[109, 97, 105, 110]⟩ < 0
    all_goals
      have HF := hid (show mainD ds1 fs1 = (if namedF fs1 ⟨#[109, 97, 105, 110]⟩ < 0 then (0, 3) else (namedF fs1 ⟨#[109, 97, 105, 110]⟩, 0)) by rw [mainD, hk]; rfl)
      rw [hk] at hc
      have HC := hid hc
      first
        | (rw [if_pos hq] at HF; have hqb : decide (namedF fs1 ⟨#[109, 97, 105, 110]⟩ < 0) = true := by simpa using hq)
        | (rw [if_neg hq] at HF; have hqb : decide (namedF fs1 ⟨#[109, 97, 105, 110]⟩ < 0) = false := by simpa using hq)
      generalize namedF fs1 ⟨#[109, 97, 105, 110]⟩ = m at HF hn hqb
      have HN := hid hn
      clear hc hk hn hq
      go_enter Try.func44, Try.ntmps44
      go_wp2_with fail
      refine HC.out.mono ?_
      rintro e w1 ⟨rfl, hb⟩
      have HB1 := hid (HB.out.trans (hb.mono HB.out.size))
      have y0 := (HX0.out.below hb).at 0 0 rfl rfl
      have y1 := (HX0.out.below hb).at 0 1 rfl rfl
      clear hb
      go_wp2_with fail
      refine (HN.out _ HB1.out).mono ?_
      rintro e w2 ⟨rfl, rfl⟩
      clear y0 y1
      go_wp2_with fail
      go_ret2
      exact ⟨by rw [HF.out]; rfl, HB1.out⟩
theorem impl_MainDef (ds1 : List Dat) (fs1 : List Df) (ads1 : Option Addr) (cds1 : Nat) (afs1 : Option Addr) (cfs1 : Nat) (w : World) (hM : Pg.bulk (Pg.mk ds1 fs1) ≤ 1048576) (hr : RdS w (Pg.d (Pg.mk ds1 fs1)) [.slice ads1 ds1.length cds1, .slice afs1 fs1.length cfs1]) :
    Calls Try.prog 45 #[.agg #[.slice ads1 ds1.length cds1, .slice afs1 fs1.length cfs1]] w fun e w' => e = .returned (.tuple #[.int .i64 (mainD ds1 fs1).1, .int .i64 (mainD ds1 fs1).2]) ∧ Below w.heap.size w w' := by
  have hB := (Below.refl w.heap.size w).alloc (Nat.le_refl _) (.cells #[.slice ads1 ds1.length cds1, .slice afs1 fs1.length cfs1] 61)
  have HX0 := hid ((Boxes.nil w).alloc #[.slice ads1 ds1.length cds1, .slice afs1 fs1.length cfs1] 61 (0, 0))
  have hc := impl_ValidProgram ds1 fs1 ads1 cds1 afs1 cfs1 (w.alloc (.cells #[.slice ads1 ds1.length cds1, .slice afs1 fs1.length cfs1] 61)) hM (hr.below hB)
  have hn := fun W (hW : Below w.heap.size w W) => impl_findDef ds1 fs1 ads1 cds1 afs1 cfs1 ⟨#[109, 97, 105, 110]⟩ W (hr.fPg.2.below hW)
  have HB := hid hB
  clear hB hr hM
  by_cases hk : progOk ds1 fs1 = true
  case neg =>
    replace hk := (Bool.not_eq_true _).mp hk
    have HF := hid (show mainD ds1 fs1 = (0, 1) by simp [mainD, hk])
    rw [hk] at hc
    have HC := hid hc
    clear hc hk hn
    go_enter Try.func45, Try.ntmps45
    go_wp2_with fail
    refine HC.out.mono ?_
    rintro e w1 ⟨rfl, hb⟩
    have HB1 := hid (HB.out.trans (hb.mono HB.out.size))
    clear hb
    go_wp2_with fail
    go_ret2
    exact ⟨by rw [HF.out]; rfl, HB1.out⟩
  case pos =>
    by_cases hq : namedF fs1 ⟨#[109, 97, 105, 110]⟩ < 0
    all_goals
      have HF := hid (show mainD ds1 fs1 = (if namedF fs1 ⟨#[109, 97, 105, 110]⟩ < 0 then (0, 3) else (namedF fs1 ⟨#[109, 97, 105, 110]⟩, 0)) by rw [mainD, hk]; rfl)
      rw [hk] at hc
      have HC := hid hc
      first
        | (rw [if_pos hq] at HF; have hqb : decide (namedF fs1 ⟨#[109, 97, 105, 110]⟩ < 0) = true := by simpa using hq)
        | (rw [if_neg hq] at HF; have hqb : decide (namedF fs1 ⟨#[109, 97, 105, 110]⟩ < 0) = false := by simpa using hq)
      generalize namedF fs1 ⟨#[109, 97, 105, 110]⟩ = m at HF hn hqb
      have HN := hid hn
      clear hc hk hn hq
      go_enter Try.func45, Try.ntmps45
      go_wp2_with fail
      refine HC.out.mono ?_
      rintro e w1 ⟨rfl, hb⟩
      have HB1 := hid (HB.out.trans (hb.mono HB.out.size))
      have y0 := (HX0.out.below hb).at 0 0 rfl rfl
      have y1 := (HX0.out.below hb).at 0 1 rfl rfl
      clear hb
      go_wp2_with fail
      refine (HN.out _ HB1.out).mono ?_
      rintro e w2 ⟨rfl, hb⟩
      have HB2 := hid (HB1.out.trans (hb.mono HB1.out.size))
      clear hb
      clear y0 y1
      go_wp2_with fail
      go_ret2
      exact ⟨by rw [HF.out]; rfl, HB2.out⟩
end Go.Proofs.Ytdcifcfkjhpokaa

namespace Go.Proofs.Ytdcifcfkjhpokaa
open Go.ChangeShapes Go.WideShapes Go.ChangeAt Go.RowKit
open Go.Sort (grow)
open Go.ChangeMaps (open_string)
set_option linter.unusedVariables false

set_option maxHeartbeats 1000000 in
theorem FnExactMainDef_walk (ds_x : List Dat) (fs_x : List Df) (ads_x : Option Addr) (cds_x : Nat) (afs_x : Option Addr) (cfs_x : Nat) (w : World) (hr_x : RdS w (Pg.d (Pg.mk ds_x fs_x)) [.slice ads_x ds_x.length cds_x, .slice afs_x fs_x.length cfs_x]) :
    Calls Try.prog 12 #[.agg #[.slice ads_x ds_x.length cds_x, .slice afs_x fs_x.length cfs_x]] w fun e w' => e = .returned (.bool true) ∧ Below w.heap.size w w' := by
  have hbw0 : Below w.heap.size w (w.alloc (.cells #[.slice ads_x ds_x.length cds_x, .slice afs_x fs_x.length cfs_x] 55)) := ((Below.refl _ _).alloc (by simp) _)
  have HX0 := hid ((Boxes.nil w).alloc #[.slice ads_x ds_x.length cds_x, .slice afs_x fs_x.length cfs_x] 55 (0, 0))
  have hc0 := fun (W : World) (hb : Below w.heap.size w W) => szPg ds_x fs_x ads_x cds_x afs_x cfs_x (1048576) W (hr_x.below hb) (by omega) (by omega)
  by_cases hp0 : ((Pg.bulk (Pg.mk ds_x fs_x) : Nat) : Int) ≤ 1048576
  case neg =>
    rw [purse_no hp0] at hc0
    have HC0 := hid hc0
    have HB0 := hid hbw0
    clear hbw0 hc0 hr_x
    go_enter Try.func12, Try.ntmps12
    go_wp2_with fail
    refine (HC0.out _ HB0.out).mono ?_
    rintro e w1 ⟨rfl, hb⟩
    have HB1 := hid (HB0.out.trans (hb.mono (by simp)))
    have HX1 := hid (HX0.out.below hb)
    clear hb HC0
    go_wp2_with fail
    go_ret
    exact ⟨rfl, HB1.out⟩
  case pos =>
    rw [purse_ok hp0] at hc0
    have HM_x : Hid (Pg.bulk (Pg.mk ds_x fs_x) ≤ 1048576) := by show _ ≤ _; omega
    have HC0 := hid hc0
    have HB0 := hid hbw0
    have R_x := hid hr_x
    clear hbw0 hc0 hr_x
    go_enter Try.func12, Try.ntmps12
    go_wp2_with fail
    refine (HC0.out _ HB0.out).mono ?_
    rintro e w1 ⟨rfl, hb⟩
    have HB1 := hid (HB0.out.trans (hb.mono (by simp)))
    have HX1 := hid (HX0.out.below hb)
    clear hb HC0
    have R_x := hid (R_x.out.below HB1.out)
    have g0_0 := HX1.out.at 0 0 rfl rfl
    have g0_1 := HX1.out.at 0 1 rfl rfl
    go_wp2_with fail
    clear g0_0 g0_1
    refine (toPg ds_x fs_x ads_x cds_x afs_x cfs_x _ HM_x.out ?_).mono ?_
    · exact R_x.out
    rintro e v0 ⟨ads_xs, cds_xs, afs_xs, cfs_xs, rfl, ho_xs, hb⟩
    have HB2 := hid (HB1.out.trans (hb.mono HB1.out.size))
    have HX2 := hid (HX1.out.below hb)
    have R_x := hid (R_x.out.below hb)
    have C_xs := hid ho_xs.rd
    clear hb ho_xs
    go_wp2_with fail
    refine (spec_MainDef _ _ _ _ _ _ _ ?_ ?_).mono ?_
    · exact HM_x.out
    · exact C_xs.out
    rintro e vs ⟨rfl, hb⟩
    have HB3 := hid (HB2.out.trans (hb.mono HB2.out.size))
    have HX3 := hid (HX2.out.below hb)
    have R_x := hid (R_x.out.below hb)
    have C_xs := hid (C_xs.out.below hb)
    clear hb
    have g0_0 := HX3.out.at 0 0 rfl rfl
    have g0_1 := HX3.out.at 0 1 rfl rfl
    go_wp2_with fail
    clear g0_0 g0_1
    refine (toPg ds_x fs_x ads_x cds_x afs_x cfs_x _ HM_x.out ?_).mono ?_
    · exact R_x.out
    rintro e x0 ⟨ads_xx, cds_xx, afs_xx, cfs_xx, rfl, ho_xx, hb⟩
    have HB4 := hid (HB3.out.trans (hb.mono HB3.out.size))
    have HX4 := hid (HX3.out.below hb)
    have R_x := hid (R_x.out.below hb)
    have C_xx := hid ho_xx.rd
    clear hb ho_xx
    have hba : Below x0.heap.size x0 (x0.alloc (.cells #[.slice ads_xx ds_x.length cds_xx, .slice afs_xx fs_x.length cfs_xx] 61)) := (Below.refl _ _).alloc (Nat.le_refl _) _
    have HXa := hid (HX4.out.alloc #[.slice ads_xx ds_x.length cds_xx, .slice afs_xx fs_x.length cfs_xx] 61 (0, 0))
    have HB5 := hid (HB4.out.trans (hba.mono HB4.out.size))
    have HX5 := hid (HX4.out.below hba)
    have R_x := hid (R_x.out.below hba)
    have C_xx := hid (C_xx.out.below hba)
    clear hba
    have HX5 := HXa
    have g0_0 := HX5.out.at 0 0 rfl rfl
    have g0_1 := HX5.out.at 0 1 rfl rfl
    go_wp2_with fail
    clear g0_0 g0_1
    refine (impl_MainDef _ _ _ _ _ _ _ ?_ ?_).mono ?_
    · exact HM_x.out
    · exact C_xx.out
    rintro e vi ⟨rfl, hb⟩
    have HB6 := hid (HB5.out.trans (hb.mono HB5.out.size))
    have HX6 := hid (HX5.out.below hb)
    have R_x := hid (R_x.out.below hb)
    have C_xx := hid (C_xx.out.below hb)
    clear hb
    go_wp2_with fail
    have g0_0 := HX6.out.at 0 0 rfl rfl
    have g0_1 := HX6.out.at 0 1 rfl rfl
    have g1_0 := HX6.out.at 1 0 rfl rfl
    have g1_1 := HX6.out.at 1 1 rfl rfl
    have hkeep : ∀ V V' : World, Below V.heap.size V V' → (Below vi.heap.size vi V ∧ V.cell? ⟨x0.heap.size, 0, none⟩ = some (.slice ads_xx ds_x.length cds_xx) ∧ V.cell? ⟨x0.heap.size, 1, none⟩ = some (.slice afs_xx fs_x.length cfs_xx) ∧ V.cell? ⟨w.heap.size, 0, none⟩ = some (.slice ads_x ds_x.length cds_x) ∧ V.cell? ⟨w.heap.size, 1, none⟩ = some (.slice afs_x fs_x.length cfs_x)) → (Below vi.heap.size vi V' ∧ V'.cell? ⟨x0.heap.size, 0, none⟩ = some (.slice ads_xx ds_x.length cds_xx) ∧ V'.cell? ⟨x0.heap.size, 1, none⟩ = some (.slice afs_xx fs_x.length cfs_xx) ∧ V'.cell? ⟨w.heap.size, 0, none⟩ = some (.slice ads_x ds_x.length cds_x) ∧ V'.cell? ⟨w.heap.size, 1, none⟩ = some (.slice afs_x fs_x.length cfs_x)) := fun V V' hb ⟨h, _⟩ =>
      have hb' := h.trans (hb.mono h.size)
      ⟨hb', (hb'.cell (p := ⟨_, 0, none⟩) (World.block_lt_of_cell? _ _ g0_0)).trans g0_0, (hb'.cell (p := ⟨_, 1, none⟩) (World.block_lt_of_cell? _ _ g0_1)).trans g0_1, (hb'.cell (p := ⟨_, 0, none⟩) (World.block_lt_of_cell? _ _ g1_0)).trans g1_0, (hb'.cell (p := ⟨_, 1, none⟩) (World.block_lt_of_cell? _ _ g1_1)).trans g1_1⟩
    have KEEP := hid hkeep
    clear hkeep
    have hbd : Below vi.heap.size vi vi.drew := (Below.refl _ _).drew
    go_region_held3 (fun V => Below vi.heap.size vi V ∧ V.cell? ⟨x0.heap.size, 0, none⟩ = some (.slice ads_xx ds_x.length cds_xx) ∧ V.cell? ⟨x0.heap.size, 1, none⟩ = some (.slice afs_xx fs_x.length cfs_xx) ∧ V.cell? ⟨w.heap.size, 0, none⟩ = some (.slice ads_x ds_x.length cds_x) ∧ V.cell? ⟨w.heap.size, 1, none⟩ = some (.slice afs_x fs_x.length cfs_x))
      (first | exact KEEP.out _ _ hbq (by assumption) | go_keep)
      (first
        | (go_at_call 39; (with_reducible refine (toPg ds_x fs_x ads_x cds_x afs_x cfs_x _ HM_x.out ?_).mono ?_); (exact R_x.out.below (‹Below vi.heap.size vi _ ∧ _›).1); rintro e y0a ⟨ads_xe, cds_xe, afs_xe, cfs_xe, rfl, ho_xe, hbq⟩)
        | (go_at_call 41; (with_reducible refine (eqPg _ _ _ _ _ _ _ _ _ _ _ ?_ ?_).mono ?_); (exact C_xx.out.below ((‹Below vi.heap.size vi y0a ∧ _›).1)); (exact ho_xe.rd); rintro e y0b ⟨rfl, hbq⟩))
    obtain ⟨hbr, -⟩ := ‹Below vi.heap.size vi y0b ∧ _›
    clear KEEP hbd g0_0 g0_1 g1_0 g1_1
    have HB7 := hid (HB6.out.trans (hbr.mono HB6.out.size))
    have HX7 := hid (HX6.out.below hbr)
    have R_x := hid (R_x.out.below hbr)
    have C_xx := hid (C_xx.out.below hbr)
    clear hbr
    clear ho_xe
    go_wp2_with fail
    go_ret
    exact ⟨rfl, HB7.out⟩

set_option maxRecDepth 100000 in
theorem FnExactMainDef_lifted (os : Os) (started : os.Started) (H : Type) (enc : TypeId × Value → H) :
    ReturnsInHanded {} Try.checked os 12 .any (Rows.fnExactMainDefSpec.pre6 enc Try.prog Try.f12 Rows.fnExactMainDefRow.domain false) (Rows.fnExactMainDefSpec.post enc Try.prog Try.f12 false true false false) := by
  refine law_lifted (C := Try.checked) (tb := 4) own started (by kernel_rfl) Try.func12 laidOut (by intro t ht; rw [Try.params12] at ht; simp at ht; subst ht; exact ⟨by kernel_rfl, of_decide_eq_true (by kernel_rfl)⟩) rfl Try.underlying4 rfl ?_
    (ChangeSpec.witness6 (enc := enc) (C := Try.checked) false ⟨#[], #[.agg #[.slice none 0 0, .slice none 0 0]], []⟩ 8 (by kernel_rfl) (by kernel_rfl) (by kernel_rfl) (by kernel_rfl)) ?_
  · intro ds hds
    rw [Try.params12] at hds
    match ds, hds with
    | [_], _ => exact ⟨rfl, rfl, rfl⟩
  intro W base args ds p hval0 hA0 hlt
  have hval : ∀ (j : Nat) t v, Try.f12.params[j]? = some t → args[j]? = some v → Value.okWide Try.prog W .any base t v := hval0
  have hA : DataW.TrodAll enc Try.prog W 0 (fun _ => true) true Try.f12.params.toList args.toList ds p := hA0
  rw [Try.params12] at hA hval
  clear hval0 hA0
  obtain ⟨v0, vs0, d0, ds0, p0, q0, hargs0, rfl, rfl, h0, r0⟩ := trodAll_cons hA
  obtain ⟨rfl, rfl, rfl⟩ := trodAll_nil r0
  obtain rfl : args = #[v0] := by cases args; simp_all
  obtain ⟨ds_x, fs_x, ads_x, cds_x, afs_x, cfs_x, rfl, hr_x⟩ := arg_Pg (hval 0 55 v0 rfl rfl) h0
  exact FnExactMainDef_walk ds_x fs_x ads_x cds_x afs_x cfs_x W hr_x

theorem FnExactMainDef_holds : Rows.FnExactMainDefSaid :=
  OpenClaim.holds_of_wide 12 Try.f12 rfl rfl rfl rfl rfl rfl rfl ⟨rfl, rfl, rfl, rfl, rfl⟩ rfl rfl rfl rfl rfl (by kernel_rfl) Try.func12 (by kernel_rfl)
    (of_decide_eq_true (by kernel_rfl)) (by unfold Func.isWrapper; first | (rw [if_pos (by decide +kernel)]; kernel_rfl) | (rw [if_neg (by decide +kernel)]; exact ⟨rfl, rfl⟩))
    (fun os started H enc _ => FnExactMainDef_lifted os started H enc)
end Go.Proofs.Ytdcifcfkjhpokaa
