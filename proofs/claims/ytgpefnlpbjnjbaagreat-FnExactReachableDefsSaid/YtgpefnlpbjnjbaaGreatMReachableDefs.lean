/- FnExactReachableDefs: for every input. No condition. -/
import Derived.Test.YtgpefnlpbjnjbaaGreatMem
import Derived.Test.YtgpefnlpbjnjbaaGreatSc
import Derived.Test.YtgpefnlpbjnjbaaGreatDTy
import Derived.Test.YtgpefnlpbjnjbaaGreatDCon
import Derived.Test.YtgpefnlpbjnjbaaGreatDDat
import Derived.Test.YtgpefnlpbjnjbaaGreatDTm
import Derived.Test.YtgpefnlpbjnjbaaGreatDDf
import Derived.Test.YtgpefnlpbjnjbaaGreatDPg
import Derived.Test.YtgpefnlpbjnjbaaGreatSzTy
import Derived.Test.YtgpefnlpbjnjbaaGreatSzSc
import Derived.Lib.QuietBelow
import Derived.Test.YtgpefnlpbjnjbaaGreatSzDf
import Derived.Test.YtgpefnlpbjnjbaaGreatToSc
import Derived.Test.YtgpefnlpbjnjbaaGreatSzTm
import Derived.Test.YtgpefnlpbjnjbaaGreatMReachableDefsb
import Derived.Deep.AppendLies
import Derived.Deep.RegionHeld3
namespace Go.Proofs.YtgpefnlpbjnjbaaGreat
open Go.RowKit

def contigB (P : Program) : Nat → List Field → Nat → Bool
  | o, [], tot => o == tot
  | o, f :: fs, tot => f.offset == o && contigB P (o + P.cellsOf f.type) fs tot
/-- Types of plain data, closed in themselves. -/
def okTy (P : Program) (S : List TypeId) (t : TypeId) : Bool :=
  match P.underlying t with
  | some (.int k) => k == .i64
  | some .bool => true
  | some .string => true
  | some (.slice e) => S.contains e && decide (1 ≤ P.cellsOf e)
  | some (.struct fs) => fs.toList.all (fun f => S.contains f.type) && contigB P 0 fs.toList (P.cellsOf t)
  | _ => false

def TypedFs (r : TypeId → D → Prop) : List Field → List D → Prop
  | [], [] => True
  | f :: fs, d :: ds => r f.type d ∧ TypedFs r fs ds
  | _, _ => False
/-- The datum has the type's shape. -/
def Typed (P : Program) : Nat → TypeId → D → Prop
  | 0, _, _ => False
  | n + 1, t, d =>
    match P.underlying t with
    | some (.int _) => ∃ k, d = .int k
    | some .bool => ∃ b, d = .bool b
    | some .string => ∃ s, d = .str s
    | some (.slice e) => ∃ ds, d = .list ds ∧ ∀ x ∈ ds, Typed P n e x
    | some (.struct fs) => ∃ ds, d = .struct ds ∧ TypedFs (Typed P n) fs.toList ds
    | _ => False

theorem all_cells {w : World} {b o m : Nat} {len : Nat} {f : Nat → List Value} {ds : Nat → D} {Fs : Nat → List Nat}
    (h : ∀ i, i < len → (f i).length = m ∧ Cells w b (o + i * m) (f i) ∧ Rd w (ds i) (f i) (Fs i)) :
    ∃ xs F, xs.length = len * m ∧ Cells w b o xs ∧ RdAll w ((List.range len).map ds) xs F := by
  induction len with
  | zero => exact ⟨[], [], by simp, fun j v hj => by simp at hj, RdAll.nil⟩
  | succ len ih =>
    obtain ⟨xs, F, h0, h1, h2⟩ := ih fun i hi => h i (by omega)
    obtain ⟨k0, k1, k2⟩ := h len (by omega)
    refine ⟨xs ++ f len, F ++ Fs len, by rw [List.length_append, h0, k0, Nat.succ_mul], fun j v hj => ?_, ?_⟩
    · by_cases hl : j < xs.length
      · rw [List.getElem?_append_left hl] at hj; exact h1 j v hj
      · rw [List.getElem?_append_right (by omega)] at hj
        have := k1 _ v hj
        rw [h0] at this hl
        rw [show o + j = o + len * m + (j - len * m) by omega]; exact this
    · rw [List.range_succ, List.map_append]
      exact h2.append (RdAll.one k2)

section
variable {H : Type} {enc : TypeId × Value → H} {P : Program} {w : World} {S : List TypeId}

theorem struct_rd {n : Nat} {r : TypeId → List Value → Option (DataW H × List MemPlace)} {cs : List Value}
    (ih : ∀ t cs x, t ∈ S → r t cs = some x → cs.length = P.cellsOf t ∧ ∃ d F, Rd w d cs F ∧ Typed P n t d) :
    ∀ (fs : List Field) (o : Nat) (xs : List (DataW H × List MemPlace)), (∀ f ∈ fs, f.type ∈ S) → contigB P o fs cs.length = true →
      (∀ (i : Nat) (f : Field), fs[i]? = some f → r f.type ((cs.drop f.offset).take (P.cellsOf f.type)) = xs[i]?) → xs.length = fs.length →
      ∃ ds F, RdAll w ds (cs.drop o) F ∧ TypedFs (Typed P n) fs ds
  | [], o, xs, _, hc, _, _ => by
    simp only [contigB, beq_iff_eq] at hc
    exact ⟨[], [], by rw [hc, List.drop_length]; exact RdAll.nil, trivial⟩
  | f :: fs, o, xs, hS, hc, hx, hl => by
    simp only [contigB, Bool.and_eq_true, beq_iff_eq] at hc
    obtain ⟨rfl, hc⟩ := hc
    match xs, hl with
    | x :: xs, hl =>
      have h0 := hx 0 f rfl
      simp only [List.getElem?_cons_zero] at h0
      obtain ⟨k0, d, F, k1, k2⟩ := ih _ _ _ (hS f (by simp)) h0
      obtain ⟨ds, G, k3, k4⟩ := struct_rd ih fs (f.offset + P.cellsOf f.type) xs (fun g hg => hS g (by simp [hg])) hc (fun i g hg => by have := hx (i + 1) g (by simpa using hg); simpa using this) (by simpa using hl)
      refine ⟨d :: ds, F ++ G, ?_, k2, k4⟩
      have e : cs.drop f.offset = (cs.drop f.offset).take (P.cellsOf f.type) ++ cs.drop (f.offset + P.cellsOf f.type) := by
        rw [← List.drop_drop, List.take_append_drop]
      rw [e]
      exact RdAll.cons k1 k3

theorem trod_rd (hS : S.all (okTy P S) = true) (hcell : S.all (fun t => match P.underlying t with | some (.int _) => P.cellsOf t == 1 | some .bool => P.cellsOf t == 1 | some .string => P.cellsOf t == 1 | some (.slice _) => P.cellsOf t == 1 | _ => true) = true) :
    ∀ (fuel : Nat) (t : TypeId) (cs : List Value) (x : DataW H × List MemPlace), t ∈ S → DataW.trod enc P w 0 (fun _ => true) true fuel t cs = some x → cs.length = P.cellsOf t ∧ ∃ d F, Rd w d cs F ∧ Typed P fuel t d := by
  intro fuel
  induction fuel with
  | zero => intro t cs x _ h; simp [DataW.trod] at h
  | succ n ih =>
    intro t cs x ht h
    have hok := List.all_eq_true.1 hS t ht
    have hce := List.all_eq_true.1 hcell t ht
    unfold okTy at hok
    split at hok
    · rename_i k hu
      obtain rfl : k = .i64 := by simpa using hok
      obtain ⟨m, rfl, rfl, hwf⟩ := DataW.trod_int hu h
      simp only [hu, beq_iff_eq] at hce
      refine ⟨by simp [hce], .int m, [], ?_, by unfold Typed; rw [hu]; exact ⟨m, rfl⟩⟩
      have := hwf
      simp [Lit.wf, IntKind.min, IntKind.max, IntKind.bits, IntKind.signed] at this
      exact Rd.int_mk (by omega) (by omega)
    · rename_i hu
      obtain ⟨b, rfl, rfl⟩ := DataW.trod_bool hu h
      simp only [hu, beq_iff_eq] at hce
      exact ⟨by simp [hce], .bool b, [], Rd.bool_mk, by unfold Typed; rw [hu]; exact ⟨b, rfl⟩⟩
    · rename_i hu
      obtain ⟨s, rfl, rfl, hs⟩ := DataW.trod_string hu h
      simp only [hu, beq_iff_eq] at hce
      exact ⟨by simp [hce], .str s, [], Rd.str_mk (by unfold maxLen at hs; omega), by unfold Typed; rw [hu]; exact ⟨s, rfl⟩⟩
    · rename_i e hu
      simp only [hu, beq_iff_eq] at hce
      simp only [Bool.and_eq_true, decide_eq_true_eq] at hok
      have heS : e ∈ S := by simpa using hok.1
      rcases DataW.trod_slice hu h with ⟨rfl, rfl⟩ | ⟨a, len, cap, elems, rest, m, hm, rfl, rfl, hb, hl, hc, hel, hg, _, _⟩
      · exact ⟨by simp [hce], .list [], [], Rd.nil_mk (by omega), by unfold Typed; rw [hu]; exact ⟨[], rfl, fun x hx => by simp at hx⟩⟩
      · obtain rfl : n = m := by omega
        have key : ∀ i, i < len → ∃ c d F, w.cells? 0 (a.add (i * P.cellsOf e)) (P.cellsOf e) = some c ∧ Rd w d c F ∧ Typed P n e d := fun i hi => by
          have h1 := hg i hi
          rw [List.getElem?_eq_getElem (by omega)] at h1
          obtain ⟨c, k1, k2⟩ := Option.bind_eq_some_iff.1 h1
          obtain ⟨_, d, F, k3, k4⟩ := ih e c _ heS k2
          exact ⟨c, d, F, k1, k3, k4⟩
        have hcap : cap ≤ 9223372036854775807 := by unfold maxLen at hc; omega
        refine ⟨by simp [hce], ?_⟩
        by_cases h0 : len = 0
        · subst h0
          exact ⟨.list [], [], Rd.nil_mk hcap, by unfold Typed; rw [hu]; exact ⟨[], rfl, fun x hx => by simp at hx⟩⟩
        · classical
          have key' : ∀ i, ∃ p : List Value × D × List Nat, i < len → w.cells? 0 (a.add (i * P.cellsOf e)) (P.cellsOf e) = some p.1 ∧ Rd w p.2.1 p.1 p.2.2 ∧ Typed P n e p.2.1 := fun i => by
            by_cases hi : i < len
            · obtain ⟨c, d, F, k⟩ := key i hi; exact ⟨(c, d, F), fun _ => k⟩
            · exact ⟨([], .int 0, []), fun h => absurd h hi⟩
          obtain ⟨f, hf⟩ := Classical.skolem.1 key'
          have hspot : a.spot = none := by
            obtain ⟨_, q2, q3⟩ := World.cells?_some (hf 0 (by omega)).1
            have := q3 0 (by omega)
            rw [Nat.zero_mul] at this
            have hlt : 0 < (f 0).1.length := by rw [q2]; omega
            rw [List.getElem?_eq_getElem hlt] at this
            simp only [Addr.add, if_pos] at this
            unfold World.cell? at this
            split at this
            · split at this
              · cases this
              · rename_i hsp; simpa using hsp
            · cases this
          obtain ⟨blk, off, spot⟩ := a
          obtain rfl : spot = none := hspot
          have hadd : ∀ b o j : Nat, (Addr.mk b o none).add j = ⟨b, o + j, none⟩ := fun b o j => by
            unfold Addr.add
            split
            · rename_i hj; subst hj; rfl
            · rfl
          have hcells : ∀ i, i < len → (f i).1.length = P.cellsOf e ∧ Cells w blk (off + i * P.cellsOf e) (f i).1 ∧ Rd w (f i).2.1 (f i).1 (f i).2.2 := fun i hi => by
            obtain ⟨q1, q2, q3⟩ := World.cells?_some (hf i hi).1
            refine ⟨q2, fun j v hj => ?_, (hf i hi).2.1⟩
            have hjl : j < P.cellsOf e := by rw [← q2]; exact (List.getElem?_eq_some_iff.1 hj).1
            have := q3 j hjl
            rw [hadd, hadd, hj] at this
            exact this
          obtain ⟨xs, F, g0, g1, g2⟩ := all_cells hcells
          have hblk : blk < w.heap.size := by
            obtain ⟨v, hv⟩ : ∃ v, xs[0]? = some v := ⟨_, List.getElem?_eq_getElem (by rw [g0]; exact Nat.mul_pos (by omega) (by omega))⟩
            exact block_lt_of_cell (g1 0 v hv)
          refine ⟨.list ((List.range len).map fun i => (f i).2.1), blk :: F, ?_, by unfold Typed; rw [hu]; exact ⟨_, rfl, fun x hx => by obtain ⟨i, hi, rfl⟩ := List.mem_map.1 hx; exact (hf i (by simpa using hi)).2.2⟩⟩
          have := Rd.list_mk (w := w) (ds := (List.range len).map fun i => (f i).2.1) (b := blk) (o := off) (cap := cap) (xs := xs) (F := F) (by simp; exact h0) (by simpa using hl) hcap hblk g1 g2
          simpa using this
    · rename_i fs hu
      simp only [Bool.and_eq_true] at hok
      obtain ⟨xs, m, hm, rfl, hl, hxl, hx⟩ := DataW.trod_struct hu h
      obtain rfl : n = m := by omega
      obtain ⟨ds, F, k1, k2⟩ := struct_rd (P := P) (w := w) (S := S) (n := n) (cs := cs) ih fs.toList 0 xs (fun f hf => by have := List.all_eq_true.1 hok.1 f hf; simpa using this) (by rw [hl]; exact hok.2) (fun i f hf => hx i f (by simpa using hf)) (by simpa using hxl)
      exact ⟨hl, .struct ds, F, Rd.struct_mk (by simpa using k1), by unfold Typed; rw [hu]; exact ⟨ds, rfl, k2⟩⟩
    · cases hok
end
end Go.Proofs.YtgpefnlpbjnjbaaGreat

namespace Go.Proofs.YtgpefnlpbjnjbaaGreat
open Go.ChangeShapes Go.WideShapes Go.ChangeAt Go.RowKit
set_option linter.unusedVariables false

set_option maxRecDepth 100000 in
theorem typed_In : ∀ (n : Nat) (d : D), Typed Tryz.prog n 2 d → ∃ t : Int, d = In.d t
  | 0, _, h => by simp [Typed] at h
  | n + 1, d, h => by
    unfold Typed at h
    rw [Tryz.underlying2] at h
    exact h
set_option maxRecDepth 100000 in
theorem typed_Ins : ∀ (n : Nat) (d : D), Typed Tryz.prog n 27 d → ∃ ts : List Int, d = .list (In.ds ts)
  | 0, _, h => by simp [Typed] at h
  | n + 1, d, h => by
    unfold Typed at h
    rw [Tryz.underlying27] at h
    obtain ⟨ds, rfl, h⟩ := h
    have key : ∀ ds : List D, (∀ x ∈ ds, Typed Tryz.prog n 2 x) → ∃ ts, ds = In.ds ts := by
      intro ds
      induction ds with
      | nil => exact fun _ => ⟨[], rfl⟩
      | cons x xs ih =>
        intro hx
        obtain ⟨t, ht⟩ := typed_In n x (hx x (by simp))
        obtain ⟨ts, hts⟩ := ih fun y hy => hx y (by simp [hy])
        exact ⟨t :: ts, by rw [ht, hts]; rfl⟩
    obtain ⟨ts, rfl⟩ := key ds h
    exact ⟨ts, rfl⟩
set_option maxRecDepth 100000 in
theorem typed_Sr : ∀ (n : Nat) (d : D), Typed Tryz.prog n 9 d → ∃ t : ByteArray, d = Sr.d t
  | 0, _, h => by simp [Typed] at h
  | n + 1, d, h => by
    unfold Typed at h
    rw [Tryz.underlying9] at h
    exact h
set_option maxRecDepth 100000 in
theorem typed_Srs : ∀ (n : Nat) (d : D), Typed Tryz.prog n 60 d → ∃ ts : List ByteArray, d = .list (Sr.ds ts)
  | 0, _, h => by simp [Typed] at h
  | n + 1, d, h => by
    unfold Typed at h
    rw [Tryz.underlying60] at h
    obtain ⟨ds, rfl, h⟩ := h
    have key : ∀ ds : List D, (∀ x ∈ ds, Typed Tryz.prog n 9 x) → ∃ ts, ds = Sr.ds ts := by
      intro ds
      induction ds with
      | nil => exact fun _ => ⟨[], rfl⟩
      | cons x xs ih =>
        intro hx
        obtain ⟨t, ht⟩ := typed_Sr n x (hx x (by simp))
        obtain ⟨ts, hts⟩ := ih fun y hy => hx y (by simp [hy])
        exact ⟨t :: ts, by rw [ht, hts]; rfl⟩
    obtain ⟨ts, rfl⟩ := key ds h
    exact ⟨ts, rfl⟩
set_option maxRecDepth 100000 in
theorem typed_Bo : ∀ (n : Nat) (d : D), Typed Tryz.prog n 4 d → ∃ t : Bool, d = Bo.d t
  | 0, _, h => by simp [Typed] at h
  | n + 1, d, h => by
    unfold Typed at h
    rw [Tryz.underlying4] at h
    exact h
end Go.Proofs.YtgpefnlpbjnjbaaGreat

namespace Go.Proofs.YtgpefnlpbjnjbaaGreat
open Go.ChangeShapes Go.WideShapes Go.ChangeAt Go.RowKit
set_option linter.unusedVariables false

set_option maxRecDepth 100000 in
mutual
theorem typed_Ty : ∀ (n : Nat) (d : D), Typed Tryz.prog n 80 d → ∃ t : Ty, d = Ty.d t
  | 0, _, h => by simp [Typed] at h
  | n + 1, d, h => by
    unfold Typed at h
    rw [Tryz.underlying80] at h
    obtain ⟨ds, rfl, h⟩ := h
    match ds, h with
    | [d0, d1, d2], ⟨h0, h1, h2, _⟩ =>
      match n, h0, h1, h2 with
      | n + 1, h0, h1, h2 =>
        unfold Typed at h0
        rw [Tryz.underlying2] at h0
        obtain ⟨x0, rfl⟩ := h0
        unfold Typed at h1
        rw [Tryz.underlying9] at h1
        obtain ⟨x1, rfl⟩ := h1
        obtain ⟨x2, rfl⟩ := typed_Tys (n + 1) d2 h2
        exact ⟨.mk x0 x1 x2, rfl⟩
theorem typed_Tys : ∀ (n : Nat) (d : D), Typed Tryz.prog n 78 d → ∃ ts : List Ty, d = .list (Ty.ds ts)
  | 0, _, h => by simp [Typed] at h
  | n + 1, d, h => by
    unfold Typed at h
    rw [Tryz.underlying78] at h
    obtain ⟨ds, rfl, h⟩ := h
    have key : ∀ ds : List D, (∀ x ∈ ds, Typed Tryz.prog n 80 x) → ∃ ts, ds = Ty.ds ts := by
      intro ds
      induction ds with
      | nil => exact fun _ => ⟨[], rfl⟩
      | cons x xs ih =>
        intro hx
        obtain ⟨t, ht⟩ := typed_Ty n x (hx x (by simp))
        obtain ⟨ts, hts⟩ := ih fun y hy => hx y (by simp [hy])
        exact ⟨t :: ts, by rw [ht, hts]; rfl⟩
    obtain ⟨ts, rfl⟩ := key ds h
    exact ⟨ts, rfl⟩
end

def tidsTy : List TypeId := [80, 2, 9, 78]
theorem tidsTy_ok : tidsTy.all (okTy Tryz.prog tidsTy) = true := by kernel_rfl -- 80
theorem tidsTy_cells : tidsTy.all (fun t => match Tryz.prog.underlying t with | some (.int _) => Tryz.prog.cellsOf t == 1 | some .bool => Tryz.prog.cellsOf t == 1 | some .string => Tryz.prog.cellsOf t == 1 | some (.slice _) => Tryz.prog.cellsOf t == 1 | _ => true) = true := by kernel_rfl -- 80
set_option maxRecDepth 100000 in
/-- Handed in. -/
theorem arg_Ty {H : Type} {enc : TypeId × Value → H} {W : World} {base : Nat} {vv : Value} {d : DataW H} {p : List MemPlace} (hv : Value.okWide Tryz.prog W .any base 80 vv)
    (h : DataW.Trod enc Tryz.prog W 0 (fun _ => true) true 80 vv d p) : ∃ (k : Int) (n : ByteArray) (ks : List Ty) (aks : Option Addr) (cks : Nat), vv = .agg #[.int .i64 k, .string n, .slice aks ks.length cks] ∧ RdS W (Ty.d (Ty.mk k n ks)) [.int .i64 k, .string n, .slice aks ks.length cks] := by
  obtain ⟨cs, rfl, _⟩ := okWide_struct Tryz.underlying80 hv
  obtain ⟨fuel, hf⟩ := h
  obtain ⟨_, d', F, h1, h2⟩ := trod_rd tidsTy_ok tidsTy_cells fuel _ _ _ (by simp [tidsTy]) hf
  obtain ⟨⟨k, n, ks⟩, rfl⟩ := typed_Ty _ _ h2
  obtain ⟨aks, cks, hc, -⟩ := h1.Ty_inv
  rw [hc] at h1
  refine ⟨k, n, ks, aks, cks, ?_, ⟨F, h1⟩⟩
  have : cs = #[.int .i64 k, .string n, .slice aks ks.length cks] := by
    apply Array.toList_inj.1
    simpa [Value.cells] using hc
  rw [this]
def tidsTys : List TypeId := [78, 80, 2, 9]
theorem tidsTys_ok : tidsTys.all (okTy Tryz.prog tidsTys) = true := by kernel_rfl -- 78
theorem tidsTys_cells : tidsTys.all (fun t => match Tryz.prog.underlying t with | some (.int _) => Tryz.prog.cellsOf t == 1 | some .bool => Tryz.prog.cellsOf t == 1 | some .string => Tryz.prog.cellsOf t == 1 | some (.slice _) => Tryz.prog.cellsOf t == 1 | _ => true) = true := by kernel_rfl -- 78
set_option maxRecDepth 100000 in
/-- Handed in. -/
theorem arg_Tys {H : Type} {enc : TypeId × Value → H} {W : World} {base : Nat} {vv : Value} {d : DataW H} {p : List MemPlace} (hv : Value.okWide Tryz.prog W .any base 78 vv)
    (h : DataW.Trod enc Tryz.prog W 0 (fun _ => true) true 78 vv d p) : ∃ (ts : List Ty) (a : Option Addr) (c : Nat), vv = .slice a ts.length c ∧ RdL W (Ty.ds ts) (.slice a ts.length c) := by
  obtain ⟨_, _, _, rfl⟩ := okWide_slice Tryz.underlying78 hv
  obtain ⟨fuel, hf⟩ := h
  obtain ⟨_, d', F, h1, h2⟩ := trod_rd tidsTys_ok tidsTys_cells fuel _ _ _ (by simp [tidsTys]) hf
  obtain ⟨ts, rfl⟩ := typed_Tys _ _ h2
  obtain ⟨a, cap, hc, -⟩ := h1.list_inv
  rw [Ty.ds_length] at hc
  simp only [Value.cells, List.cons.injEq, and_true] at hc
  rw [hc] at h1 ⊢
  exact ⟨ts, a, cap, rfl, F, h1⟩

end Go.Proofs.YtgpefnlpbjnjbaaGreat

namespace Go.Proofs.YtgpefnlpbjnjbaaGreat
open Go.ChangeShapes Go.WideShapes Go.ChangeAt Go.RowKit
set_option linter.unusedVariables false

set_option maxRecDepth 100000 in
theorem typed_Con : ∀ (n : Nat) (d : D), Typed Tryz.prog n 167 d → ∃ t : Con, d = Con.d t
  | 0, _, h => by simp [Typed] at h
  | n + 1, d, h => by
    unfold Typed at h
    rw [Tryz.underlying167] at h
    obtain ⟨ds, rfl, h⟩ := h
    match ds, h with
    | [d0, d1], ⟨h0, h1, _⟩ =>
      match n, h0, h1 with
      | n + 1, h0, h1 =>
        unfold Typed at h0
        rw [Tryz.underlying9] at h0
        obtain ⟨x0, rfl⟩ := h0
        obtain ⟨x1, rfl⟩ := typed_Tys (n + 1) d1 h1
        exact ⟨.mk x0 x1, rfl⟩
set_option maxRecDepth 100000 in
theorem typed_Cons : ∀ (n : Nat) (d : D), Typed Tryz.prog n 74 d → ∃ ts : List Con, d = .list (Con.ds ts)
  | 0, _, h => by simp [Typed] at h
  | n + 1, d, h => by
    unfold Typed at h
    rw [Tryz.underlying74] at h
    obtain ⟨ds, rfl, h⟩ := h
    have key : ∀ ds : List D, (∀ x ∈ ds, Typed Tryz.prog n 167 x) → ∃ ts, ds = Con.ds ts := by
      intro ds
      induction ds with
      | nil => exact fun _ => ⟨[], rfl⟩
      | cons x xs ih =>
        intro hx
        obtain ⟨t, ht⟩ := typed_Con n x (hx x (by simp))
        obtain ⟨ts, hts⟩ := ih fun y hy => hx y (by simp [hy])
        exact ⟨t :: ts, by rw [ht, hts]; rfl⟩
    obtain ⟨ts, rfl⟩ := key ds h
    exact ⟨ts, rfl⟩

def tidsCon : List TypeId := [167, 9, 78, 80, 2]
theorem tidsCon_ok : tidsCon.all (okTy Tryz.prog tidsCon) = true := by kernel_rfl -- 167
theorem tidsCon_cells : tidsCon.all (fun t => match Tryz.prog.underlying t with | some (.int _) => Tryz.prog.cellsOf t == 1 | some .bool => Tryz.prog.cellsOf t == 1 | some .string => Tryz.prog.cellsOf t == 1 | some (.slice _) => Tryz.prog.cellsOf t == 1 | _ => true) = true := by kernel_rfl -- 167
set_option maxRecDepth 100000 in
/-- Handed in. -/
theorem arg_Con {H : Type} {enc : TypeId × Value → H} {W : World} {base : Nat} {vv : Value} {d : DataW H} {p : List MemPlace} (hv : Value.okWide Tryz.prog W .any base 167 vv)
    (h : DataW.Trod enc Tryz.prog W 0 (fun _ => true) true 167 vv d p) : ∃ (n : ByteArray) (fs : List Ty) (afs : Option Addr) (cfs : Nat), vv = .agg #[.string n, .slice afs fs.length cfs] ∧ RdS W (Con.d (Con.mk n fs)) [.string n, .slice afs fs.length cfs] := by
  obtain ⟨cs, rfl, _⟩ := okWide_struct Tryz.underlying167 hv
  obtain ⟨fuel, hf⟩ := h
  obtain ⟨_, d', F, h1, h2⟩ := trod_rd tidsCon_ok tidsCon_cells fuel _ _ _ (by simp [tidsCon]) hf
  obtain ⟨⟨n, fs⟩, rfl⟩ := typed_Con _ _ h2
  obtain ⟨afs, cfs, hc, -⟩ := h1.Con_inv
  rw [hc] at h1
  refine ⟨n, fs, afs, cfs, ?_, ⟨F, h1⟩⟩
  have : cs = #[.string n, .slice afs fs.length cfs] := by
    apply Array.toList_inj.1
    simpa [Value.cells] using hc
  rw [this]
def tidsCons : List TypeId := [74, 167, 9, 78, 80, 2]
theorem tidsCons_ok : tidsCons.all (okTy Tryz.prog tidsCons) = true := by kernel_rfl -- 74
theorem tidsCons_cells : tidsCons.all (fun t => match Tryz.prog.underlying t with | some (.int _) => Tryz.prog.cellsOf t == 1 | some .bool => Tryz.prog.cellsOf t == 1 | some .string => Tryz.prog.cellsOf t == 1 | some (.slice _) => Tryz.prog.cellsOf t == 1 | _ => true) = true := by kernel_rfl -- 74
set_option maxRecDepth 100000 in
/-- Handed in. -/
theorem arg_Cons {H : Type} {enc : TypeId × Value → H} {W : World} {base : Nat} {vv : Value} {d : DataW H} {p : List MemPlace} (hv : Value.okWide Tryz.prog W .any base 74 vv)
    (h : DataW.Trod enc Tryz.prog W 0 (fun _ => true) true 74 vv d p) : ∃ (ts : List Con) (a : Option Addr) (c : Nat), vv = .slice a ts.length c ∧ RdL W (Con.ds ts) (.slice a ts.length c) := by
  obtain ⟨_, _, _, rfl⟩ := okWide_slice Tryz.underlying74 hv
  obtain ⟨fuel, hf⟩ := h
  obtain ⟨_, d', F, h1, h2⟩ := trod_rd tidsCons_ok tidsCons_cells fuel _ _ _ (by simp [tidsCons]) hf
  obtain ⟨ts, rfl⟩ := typed_Cons _ _ h2
  obtain ⟨a, cap, hc, -⟩ := h1.list_inv
  rw [Con.ds_length] at hc
  simp only [Value.cells, List.cons.injEq, and_true] at hc
  rw [hc] at h1 ⊢
  exact ⟨ts, a, cap, rfl, F, h1⟩

end Go.Proofs.YtgpefnlpbjnjbaaGreat

namespace Go.Proofs.YtgpefnlpbjnjbaaGreat
open Go.ChangeShapes Go.WideShapes Go.ChangeAt Go.RowKit
set_option linter.unusedVariables false

set_option maxRecDepth 100000 in
theorem typed_Dat : ∀ (n : Nat) (d : D), Typed Tryz.prog n 76 d → ∃ t : Dat, d = Dat.d t
  | 0, _, h => by simp [Typed] at h
  | n + 1, d, h => by
    unfold Typed at h
    rw [Tryz.underlying76] at h
    obtain ⟨ds, rfl, h⟩ := h
    match ds, h with
    | [d0, d1], ⟨h0, h1, _⟩ =>
      match n, h0, h1 with
      | n + 1, h0, h1 =>
        unfold Typed at h0
        rw [Tryz.underlying9] at h0
        obtain ⟨x0, rfl⟩ := h0
        obtain ⟨x1, rfl⟩ := typed_Cons (n + 1) d1 h1
        exact ⟨.mk x0 x1, rfl⟩
set_option maxRecDepth 100000 in
theorem typed_Dats : ∀ (n : Nat) (d : D), Typed Tryz.prog n 22 d → ∃ ts : List Dat, d = .list (Dat.ds ts)
  | 0, _, h => by simp [Typed] at h
  | n + 1, d, h => by
    unfold Typed at h
    rw [Tryz.underlying22] at h
    obtain ⟨ds, rfl, h⟩ := h
    have key : ∀ ds : List D, (∀ x ∈ ds, Typed Tryz.prog n 76 x) → ∃ ts, ds = Dat.ds ts := by
      intro ds
      induction ds with
      | nil => exact fun _ => ⟨[], rfl⟩
      | cons x xs ih =>
        intro hx
        obtain ⟨t, ht⟩ := typed_Dat n x (hx x (by simp))
        obtain ⟨ts, hts⟩ := ih fun y hy => hx y (by simp [hy])
        exact ⟨t :: ts, by rw [ht, hts]; rfl⟩
    obtain ⟨ts, rfl⟩ := key ds h
    exact ⟨ts, rfl⟩

def tidsDat : List TypeId := [76, 9, 74, 167, 78, 80, 2]
theorem tidsDat_ok : tidsDat.all (okTy Tryz.prog tidsDat) = true := by kernel_rfl -- 76
theorem tidsDat_cells : tidsDat.all (fun t => match Tryz.prog.underlying t with | some (.int _) => Tryz.prog.cellsOf t == 1 | some .bool => Tryz.prog.cellsOf t == 1 | some .string => Tryz.prog.cellsOf t == 1 | some (.slice _) => Tryz.prog.cellsOf t == 1 | _ => true) = true := by kernel_rfl -- 76
set_option maxRecDepth 100000 in
/-- Handed in. -/
theorem arg_Dat {H : Type} {enc : TypeId × Value → H} {W : World} {base : Nat} {vv : Value} {d : DataW H} {p : List MemPlace} (hv : Value.okWide Tryz.prog W .any base 76 vv)
    (h : DataW.Trod enc Tryz.prog W 0 (fun _ => true) true 76 vv d p) : ∃ (n : ByteArray) (qs : List Con) (aqs : Option Addr) (cqs : Nat), vv = .agg #[.string n, .slice aqs qs.length cqs] ∧ RdS W (Dat.d (Dat.mk n qs)) [.string n, .slice aqs qs.length cqs] := by
  obtain ⟨cs, rfl, _⟩ := okWide_struct Tryz.underlying76 hv
  obtain ⟨fuel, hf⟩ := h
  obtain ⟨_, d', F, h1, h2⟩ := trod_rd tidsDat_ok tidsDat_cells fuel _ _ _ (by simp [tidsDat]) hf
  obtain ⟨⟨n, qs⟩, rfl⟩ := typed_Dat _ _ h2
  obtain ⟨aqs, cqs, hc, -⟩ := h1.Dat_inv
  rw [hc] at h1
  refine ⟨n, qs, aqs, cqs, ?_, ⟨F, h1⟩⟩
  have : cs = #[.string n, .slice aqs qs.length cqs] := by
    apply Array.toList_inj.1
    simpa [Value.cells] using hc
  rw [this]
def tidsDats : List TypeId := [22, 76, 9, 74, 167, 78, 80, 2]
theorem tidsDats_ok : tidsDats.all (okTy Tryz.prog tidsDats) = true := by kernel_rfl -- 22
theorem tidsDats_cells : tidsDats.all (fun t => match Tryz.prog.underlying t with | some (.int _) => Tryz.prog.cellsOf t == 1 | some .bool => Tryz.prog.cellsOf t == 1 | some .string => Tryz.prog.cellsOf t == 1 | some (.slice _) => Tryz.prog.cellsOf t == 1 | _ => true) = true := by kernel_rfl -- 22
set_option maxRecDepth 100000 in
/-- Handed in. -/
theorem arg_Dats {H : Type} {enc : TypeId × Value → H} {W : World} {base : Nat} {vv : Value} {d : DataW H} {p : List MemPlace} (hv : Value.okWide Tryz.prog W .any base 22 vv)
    (h : DataW.Trod enc Tryz.prog W 0 (fun _ => true) true 22 vv d p) : ∃ (ts : List Dat) (a : Option Addr) (c : Nat), vv = .slice a ts.length c ∧ RdL W (Dat.ds ts) (.slice a ts.length c) := by
  obtain ⟨_, _, _, rfl⟩ := okWide_slice Tryz.underlying22 hv
  obtain ⟨fuel, hf⟩ := h
  obtain ⟨_, d', F, h1, h2⟩ := trod_rd tidsDats_ok tidsDats_cells fuel _ _ _ (by simp [tidsDats]) hf
  obtain ⟨ts, rfl⟩ := typed_Dats _ _ h2
  obtain ⟨a, cap, hc, -⟩ := h1.list_inv
  rw [Dat.ds_length] at hc
  simp only [Value.cells, List.cons.injEq, and_true] at hc
  rw [hc] at h1 ⊢
  exact ⟨ts, a, cap, rfl, F, h1⟩

end Go.Proofs.YtgpefnlpbjnjbaaGreat

namespace Go.Proofs.YtgpefnlpbjnjbaaGreat
open Go.ChangeShapes Go.WideShapes Go.ChangeAt Go.RowKit
set_option linter.unusedVariables false

set_option maxRecDepth 100000 in
mutual
theorem typed_Tm : ∀ (n : Nat) (d : D), Typed Tryz.prog n 83 d → ∃ t : Tm, d = Tm.d t
  | 0, _, h => by simp [Typed] at h
  | n + 1, d, h => by
    unfold Typed at h
    rw [Tryz.underlying83] at h
    obtain ⟨ds, rfl, h⟩ := h
    match ds, h with
    | [d0, d1, d2, d3, d4, d5], ⟨h0, h1, h2, h3, h4, h5, _⟩ =>
      match n, h0, h1, h2, h3, h4, h5 with
      | n + 1, h0, h1, h2, h3, h4, h5 =>
        unfold Typed at h0
        rw [Tryz.underlying2] at h0
        obtain ⟨x0, rfl⟩ := h0
        unfold Typed at h1
        rw [Tryz.underlying2] at h1
        obtain ⟨x1, rfl⟩ := h1
        unfold Typed at h2
        rw [Tryz.underlying9] at h2
        obtain ⟨x2, rfl⟩ := h2
        obtain ⟨x3, rfl⟩ := typed_Ty (n + 1) d3 h3
        obtain ⟨x4, rfl⟩ := typed_Srs (n + 1) d4 h4
        obtain ⟨x5, rfl⟩ := typed_Tms (n + 1) d5 h5
        exact ⟨.mk x0 x1 x2 x3 x4 x5, rfl⟩
theorem typed_Tms : ∀ (n : Nat) (d : D), Typed Tryz.prog n 81 d → ∃ ts : List Tm, d = .list (Tm.ds ts)
  | 0, _, h => by simp [Typed] at h
  | n + 1, d, h => by
    unfold Typed at h
    rw [Tryz.underlying81] at h
    obtain ⟨ds, rfl, h⟩ := h
    have key : ∀ ds : List D, (∀ x ∈ ds, Typed Tryz.prog n 83 x) → ∃ ts, ds = Tm.ds ts := by
      intro ds
      induction ds with
      | nil => exact fun _ => ⟨[], rfl⟩
      | cons x xs ih =>
        intro hx
        obtain ⟨t, ht⟩ := typed_Tm n x (hx x (by simp))
        obtain ⟨ts, hts⟩ := ih fun y hy => hx y (by simp [hy])
        exact ⟨t :: ts, by rw [ht, hts]; rfl⟩
    obtain ⟨ts, rfl⟩ := key ds h
    exact ⟨ts, rfl⟩
end

def tidsTm : List TypeId := [83, 2, 9, 80, 78, 60, 81]
theorem tidsTm_ok : tidsTm.all (okTy Tryz.prog tidsTm) = true := by kernel_rfl -- 83
theorem tidsTm_cells : tidsTm.all (fun t => match Tryz.prog.underlying t with | some (.int _) => Tryz.prog.cellsOf t == 1 | some .bool => Tryz.prog.cellsOf t == 1 | some .string => Tryz.prog.cellsOf t == 1 | some (.slice _) => Tryz.prog.cellsOf t == 1 | _ => true) = true := by kernel_rfl -- 83
set_option maxRecDepth 100000 in
/-- Handed in. -/
theorem arg_Tm {H : Type} {enc : TypeId × Value → H} {W : World} {base : Nat} {vv : Value} {d : DataW H} {p : List MemPlace} (hv : Value.okWide Tryz.prog W .any base 83 vv)
    (h : DataW.Trod enc Tryz.prog W 0 (fun _ => true) true 83 vv d p) : ∃ (k : Int) (u : Int) (n : ByteArray) (tk : Int) (tn : ByteArray) (tks : List Ty) (ns : List ByteArray) (ks : List Tm) (atks : Option Addr) (ctks : Nat) (ans : Option Addr) (cns : Nat) (aks : Option Addr) (cks : Nat), vv = .agg #[.int .i64 k, .int .i64 u, .string n, .int .i64 tk, .string tn, .slice atks tks.length ctks, .slice ans ns.length cns, .slice aks ks.length cks] ∧ RdS W (Tm.d (Tm.mk k u n (Ty.mk tk tn tks) ns ks)) [.int .i64 k, .int .i64 u, .string n, .int .i64 tk, .string tn, .slice atks tks.length ctks, .slice ans ns.length cns, .slice aks ks.length cks] := by
  obtain ⟨cs, rfl, _⟩ := okWide_struct Tryz.underlying83 hv
  obtain ⟨fuel, hf⟩ := h
  obtain ⟨_, d', F, h1, h2⟩ := trod_rd tidsTm_ok tidsTm_cells fuel _ _ _ (by simp [tidsTm]) hf
  obtain ⟨⟨k, u, n, ⟨tk, tn, tks⟩, ns, ks⟩, rfl⟩ := typed_Tm _ _ h2
  obtain ⟨atks, ctks, ans, cns, aks, cks, hc, -⟩ := h1.Tm_inv
  rw [hc] at h1
  refine ⟨k, u, n, tk, tn, tks, ns, ks, atks, ctks, ans, cns, aks, cks, ?_, ⟨F, h1⟩⟩
  have : cs = #[.int .i64 k, .int .i64 u, .string n, .int .i64 tk, .string tn, .slice atks tks.length ctks, .slice ans ns.length cns, .slice aks ks.length cks] := by
    apply Array.toList_inj.1
    simpa [Value.cells] using hc
  rw [this]
def tidsTms : List TypeId := [81, 83, 2, 9, 80, 78, 60]
theorem tidsTms_ok : tidsTms.all (okTy Tryz.prog tidsTms) = true := by kernel_rfl -- 81
theorem tidsTms_cells : tidsTms.all (fun t => match Tryz.prog.underlying t with | some (.int _) => Tryz.prog.cellsOf t == 1 | some .bool => Tryz.prog.cellsOf t == 1 | some .string => Tryz.prog.cellsOf t == 1 | some (.slice _) => Tryz.prog.cellsOf t == 1 | _ => true) = true := by kernel_rfl -- 81
set_option maxRecDepth 100000 in
/-- Handed in. -/
theorem arg_Tms {H : Type} {enc : TypeId × Value → H} {W : World} {base : Nat} {vv : Value} {d : DataW H} {p : List MemPlace} (hv : Value.okWide Tryz.prog W .any base 81 vv)
    (h : DataW.Trod enc Tryz.prog W 0 (fun _ => true) true 81 vv d p) : ∃ (ts : List Tm) (a : Option Addr) (c : Nat), vv = .slice a ts.length c ∧ RdL W (Tm.ds ts) (.slice a ts.length c) := by
  obtain ⟨_, _, _, rfl⟩ := okWide_slice Tryz.underlying81 hv
  obtain ⟨fuel, hf⟩ := h
  obtain ⟨_, d', F, h1, h2⟩ := trod_rd tidsTms_ok tidsTms_cells fuel _ _ _ (by simp [tidsTms]) hf
  obtain ⟨ts, rfl⟩ := typed_Tms _ _ h2
  obtain ⟨a, cap, hc, -⟩ := h1.list_inv
  rw [Tm.ds_length] at hc
  simp only [Value.cells, List.cons.injEq, and_true] at hc
  rw [hc] at h1 ⊢
  exact ⟨ts, a, cap, rfl, F, h1⟩

end Go.Proofs.YtgpefnlpbjnjbaaGreat

namespace Go.Proofs.YtgpefnlpbjnjbaaGreat
open Go.ChangeShapes Go.WideShapes Go.ChangeAt Go.RowKit
set_option linter.unusedVariables false

set_option maxRecDepth 100000 in
theorem typed_Df : ∀ (n : Nat) (d : D), Typed Tryz.prog n 85 d → ∃ t : Df, d = Df.d t
  | 0, _, h => by simp [Typed] at h
  | n + 1, d, h => by
    unfold Typed at h
    rw [Tryz.underlying85] at h
    obtain ⟨ds, rfl, h⟩ := h
    match ds, h with
    | [d0, d1, d2], ⟨h0, h1, h2, _⟩ =>
      match n, h0, h1, h2 with
      | n + 1, h0, h1, h2 =>
        unfold Typed at h0
        rw [Tryz.underlying9] at h0
        obtain ⟨x0, rfl⟩ := h0
        obtain ⟨x1, rfl⟩ := typed_Ty (n + 1) d1 h1
        obtain ⟨x2, rfl⟩ := typed_Tm (n + 1) d2 h2
        exact ⟨.mk x0 x1 x2, rfl⟩
set_option maxRecDepth 100000 in
theorem typed_Dfs : ∀ (n : Nat) (d : D), Typed Tryz.prog n 23 d → ∃ ts : List Df, d = .list (Df.ds ts)
  | 0, _, h => by simp [Typed] at h
  | n + 1, d, h => by
    unfold Typed at h
    rw [Tryz.underlying23] at h
    obtain ⟨ds, rfl, h⟩ := h
    have key : ∀ ds : List D, (∀ x ∈ ds, Typed Tryz.prog n 85 x) → ∃ ts, ds = Df.ds ts := by
      intro ds
      induction ds with
      | nil => exact fun _ => ⟨[], rfl⟩
      | cons x xs ih =>
        intro hx
        obtain ⟨t, ht⟩ := typed_Df n x (hx x (by simp))
        obtain ⟨ts, hts⟩ := ih fun y hy => hx y (by simp [hy])
        exact ⟨t :: ts, by rw [ht, hts]; rfl⟩
    obtain ⟨ts, rfl⟩ := key ds h
    exact ⟨ts, rfl⟩

def tidsDf : List TypeId := [85, 9, 80, 2, 78, 83, 60, 81]
theorem tidsDf_ok : tidsDf.all (okTy Tryz.prog tidsDf) = true := by kernel_rfl -- 85
theorem tidsDf_cells : tidsDf.all (fun t => match Tryz.prog.underlying t with | some (.int _) => Tryz.prog.cellsOf t == 1 | some .bool => Tryz.prog.cellsOf t == 1 | some .string => Tryz.prog.cellsOf t == 1 | some (.slice _) => Tryz.prog.cellsOf t == 1 | _ => true) = true := by kernel_rfl -- 85
set_option maxRecDepth 100000 in
/-- Handed in. -/
theorem arg_Df {H : Type} {enc : TypeId × Value → H} {W : World} {base : Nat} {vv : Value} {d : DataW H} {p : List MemPlace} (hv : Value.okWide Tryz.prog W .any base 85 vv)
    (h : DataW.Trod enc Tryz.prog W 0 (fun _ => true) true 85 vv d p) : ∃ (n : ByteArray) (tk : Int) (tn : ByteArray) (tks : List Ty) (bk : Int) (bu : Int) (bn : ByteArray) (btk : Int) (btn : ByteArray) (btks : List Ty) (bns : List ByteArray) (bks : List Tm) (atks : Option Addr) (ctks : Nat) (abtks : Option Addr) (cbtks : Nat) (abns : Option Addr) (cbns : Nat) (abks : Option Addr) (cbks : Nat), vv = .agg #[.string n, .int .i64 tk, .string tn, .slice atks tks.length ctks, .int .i64 bk, .int .i64 bu, .string bn, .int .i64 btk, .string btn, .slice abtks btks.length cbtks, .slice abns bns.length cbns, .slice abks bks.length cbks] ∧ RdS W (Df.d (Df.mk n (Ty.mk tk tn tks) (Tm.mk bk bu bn (Ty.mk btk btn btks) bns bks))) [.string n, .int .i64 tk, .string tn, .slice atks tks.length ctks, .int .i64 bk, .int .i64 bu, .string bn, .int .i64 btk, .string btn, .slice abtks btks.length cbtks, .slice abns bns.length cbns, .slice abks bks.length cbks] := by
  obtain ⟨cs, rfl, _⟩ := okWide_struct Tryz.underlying85 hv
  obtain ⟨fuel, hf⟩ := h
  obtain ⟨_, d', F, h1, h2⟩ := trod_rd tidsDf_ok tidsDf_cells fuel _ _ _ (by simp [tidsDf]) hf
  obtain ⟨⟨n, ⟨tk, tn, tks⟩, ⟨bk, bu, bn, ⟨btk, btn, btks⟩, bns, bks⟩⟩, rfl⟩ := typed_Df _ _ h2
  obtain ⟨atks, ctks, abtks, cbtks, abns, cbns, abks, cbks, hc, -⟩ := h1.Df_inv
  rw [hc] at h1
  refine ⟨n, tk, tn, tks, bk, bu, bn, btk, btn, btks, bns, bks, atks, ctks, abtks, cbtks, abns, cbns, abks, cbks, ?_, ⟨F, h1⟩⟩
  have : cs = #[.string n, .int .i64 tk, .string tn, .slice atks tks.length ctks, .int .i64 bk, .int .i64 bu, .string bn, .int .i64 btk, .string btn, .slice abtks btks.length cbtks, .slice abns bns.length cbns, .slice abks bks.length cbks] := by
    apply Array.toList_inj.1
    simpa [Value.cells] using hc
  rw [this]
def tidsDfs : List TypeId := [23, 85, 9, 80, 2, 78, 83, 60, 81]
theorem tidsDfs_ok : tidsDfs.all (okTy Tryz.prog tidsDfs) = true := by kernel_rfl -- 23
theorem tidsDfs_cells : tidsDfs.all (fun t => match Tryz.prog.underlying t with | some (.int _) => Tryz.prog.cellsOf t == 1 | some .bool => Tryz.prog.cellsOf t == 1 | some .string => Tryz.prog.cellsOf t == 1 | some (.slice _) => Tryz.prog.cellsOf t == 1 | _ => true) = true := by kernel_rfl -- 23
set_option maxRecDepth 100000 in
/-- Handed in. -/
theorem arg_Dfs {H : Type} {enc : TypeId × Value → H} {W : World} {base : Nat} {vv : Value} {d : DataW H} {p : List MemPlace} (hv : Value.okWide Tryz.prog W .any base 23 vv)
    (h : DataW.Trod enc Tryz.prog W 0 (fun _ => true) true 23 vv d p) : ∃ (ts : List Df) (a : Option Addr) (c : Nat), vv = .slice a ts.length c ∧ RdL W (Df.ds ts) (.slice a ts.length c) := by
  obtain ⟨_, _, _, rfl⟩ := okWide_slice Tryz.underlying23 hv
  obtain ⟨fuel, hf⟩ := h
  obtain ⟨_, d', F, h1, h2⟩ := trod_rd tidsDfs_ok tidsDfs_cells fuel _ _ _ (by simp [tidsDfs]) hf
  obtain ⟨ts, rfl⟩ := typed_Dfs _ _ h2
  obtain ⟨a, cap, hc, -⟩ := h1.list_inv
  rw [Df.ds_length] at hc
  simp only [Value.cells, List.cons.injEq, and_true] at hc
  rw [hc] at h1 ⊢
  exact ⟨ts, a, cap, rfl, F, h1⟩

end Go.Proofs.YtgpefnlpbjnjbaaGreat

namespace Go.Proofs.YtgpefnlpbjnjbaaGreat
open Go.ChangeShapes Go.WideShapes Go.ChangeAt Go.RowKit
set_option linter.unusedVariables false

set_option maxRecDepth 100000 in
theorem typed_Pg : ∀ (n : Nat) (d : D), Typed Tryz.prog n 25 d → ∃ t : Pg, d = Pg.d t
  | 0, _, h => by simp [Typed] at h
  | n + 1, d, h => by
    unfold Typed at h
    rw [Tryz.underlying25] at h
    obtain ⟨ds, rfl, h⟩ := h
    match ds, h with
    | [d0, d1], ⟨h0, h1, _⟩ =>
      match n, h0, h1 with
      | n + 1, h0, h1 =>
        obtain ⟨x0, rfl⟩ := typed_Dats (n + 1) d0 h0
        obtain ⟨x1, rfl⟩ := typed_Dfs (n + 1) d1 h1
        exact ⟨.mk x0 x1, rfl⟩
def tidsPg : List TypeId := [25, 22, 76, 9, 74, 167, 78, 80, 2, 23, 85, 83, 60, 81]
theorem tidsPg_ok : tidsPg.all (okTy Tryz.prog tidsPg) = true := by kernel_rfl -- 25
theorem tidsPg_cells : tidsPg.all (fun t => match Tryz.prog.underlying t with | some (.int _) => Tryz.prog.cellsOf t == 1 | some .bool => Tryz.prog.cellsOf t == 1 | some .string => Tryz.prog.cellsOf t == 1 | some (.slice _) => Tryz.prog.cellsOf t == 1 | _ => true) = true := by kernel_rfl -- 25
set_option maxRecDepth 100000 in
/-- Handed in. -/
theorem arg_Pg {H : Type} {enc : TypeId × Value → H} {W : World} {base : Nat} {vv : Value} {d : DataW H} {p : List MemPlace} (hv : Value.okWide Tryz.prog W .any base 25 vv)
    (h : DataW.Trod enc Tryz.prog W 0 (fun _ => true) true 25 vv d p) : ∃ (ds : List Dat) (fs : List Df) (ads : Option Addr) (cds : Nat) (afs : Option Addr) (cfs : Nat), vv = .agg #[.slice ads ds.length cds, .slice afs fs.length cfs] ∧ RdS W (Pg.d (Pg.mk ds fs)) [.slice ads ds.length cds, .slice afs fs.length cfs] := by
  obtain ⟨cs, rfl, _⟩ := okWide_struct Tryz.underlying25 hv
  obtain ⟨fuel, hf⟩ := h
  obtain ⟨_, d', F, h1, h2⟩ := trod_rd tidsPg_ok tidsPg_cells fuel _ _ _ (by simp [tidsPg]) hf
  obtain ⟨⟨ds, fs⟩, rfl⟩ := typed_Pg _ _ h2
  obtain ⟨ads, cds, afs, cfs, hc, -⟩ := h1.Pg_inv
  rw [hc] at h1
  refine ⟨ds, fs, ads, cds, afs, cfs, ?_, ⟨F, h1⟩⟩
  have : cs = #[.slice ads ds.length cds, .slice afs fs.length cfs] := by
    apply Array.toList_inj.1
    simpa [Value.cells] using hc
  rw [this]
end Go.Proofs.YtgpefnlpbjnjbaaGreat

namespace Go.Proofs.YtgpefnlpbjnjbaaGreat
open Go.ChangeShapes Go.WideShapes Go.ChangeAt Go.RowKit
open Go.Sort (grow)
set_option linter.unusedVariables false

abbrev SzCon : Prop := ∀ (n : ByteArray) (fs : List Ty) (afs : Option Addr) (cfs : Nat) (left : Int) (w : World), RdS w (Con.d (Con.mk n fs)) [.string n, .slice afs fs.length cfs] → 0 ≤ left → left ≤ 1048576 →
  Calls Tryz.prog 122 #[.agg #[.string n, .slice afs fs.length cfs], .int .i64 left] w fun e w' => e = .returned (.int .i64 (purse left (Con.bulk (Con.mk n fs)))) ∧ Below w.heap.size w w'
theorem szCon : SzCon := by
  intro n fs afs cfs left w hr h0 h1
  have hbk : Con.bulk (Con.mk n fs) = n.size + Ty.bulks fs := rfl
  obtain ⟨zn, hfs⟩ := hr.fCon
  by_cases hp0 : ((n.size : Nat) : Int) ≤ left
  case neg =>
    have HBK := hid hbk
    have HX0 := hid ((Boxes.nil w).alloc #[.string n, .slice afs fs.length cfs] 167 (0, 0))
    have hbw0 : Below w.heap.size w (w.alloc (.cells #[.string n, .slice afs fs.length cfs] 167)) := (Below.refl _ _).alloc (Nat.le_refl _) _
    have HBW := hid hbw0
    clear hr hbk hbw0 hfs
    go_enter Tryz.func122, Tryz.ntmps122
    go_wp2_with fail
    go_ret
    exact ⟨ret_int (by rw [purse_no (by have := HBK.out; omega)]), HBW.out⟩
  case pos =>
    skip
    have hc1 := fun (W : World) (hb : Below w.heap.size w W) => (szTys fs afs cfs (left - n.size) W (hfs.below hb) (by omega) (by omega))
    by_cases hp1 : ((Ty.bulks fs : Nat) : Int) ≤ left - n.size
    case neg =>
      rw [purse_no hp1] at hc1
      have HC1 := hid hc1
      have HBK := hid hbk
      have HX0 := hid ((Boxes.nil w).alloc #[.string n, .slice afs fs.length cfs] 167 (0, 0))
      have hbw0 : Below w.heap.size w (w.alloc (.cells #[.string n, .slice afs fs.length cfs] 167)) := (Below.refl _ _).alloc (Nat.le_refl _) _
      have HBW := hid hbw0
      clear hr hbk hbw0 hc1 hfs
      go_enter Tryz.func122, Tryz.ntmps122
      go_wp2_with fail
      refine (HC1.out _ HBW.out).mono ?_
      rintro e w1 ⟨rfl, hb1⟩
      have hbw1 := HBW.out.trans (hb1.mono (by simp))
      have hx1 := HX0.out.below hb1
      have HX1 := hid hx1
      clear hx1 hb1 HC1
      go_wp2_with fail
      go_ret
      exact ⟨ret_int (by rw [purse_no (by have := HBK.out; omega)]), hbw1⟩
    case pos =>
      rw [purse_ok hp1] at hc1
      have HC1 := hid hc1
      have HBK := hid hbk
      have HX0 := hid ((Boxes.nil w).alloc #[.string n, .slice afs fs.length cfs] 167 (0, 0))
      have hbw0 : Below w.heap.size w (w.alloc (.cells #[.string n, .slice afs fs.length cfs] 167)) := (Below.refl _ _).alloc (Nat.le_refl _) _
      have HBW := hid hbw0
      clear hr hbk hbw0 hc1 hfs
      go_enter Tryz.func122, Tryz.ntmps122
      go_wp2_with fail
      refine (HC1.out _ HBW.out).mono ?_
      rintro e w1 ⟨rfl, hb1⟩
      have hbw1 := HBW.out.trans (hb1.mono (by simp))
      have hx1 := HX0.out.below hb1
      have HX1 := hid hx1
      clear hx1 hb1 HC1
      go_wp2_with fail
      go_ret
      exact ⟨ret_int (by rw [purse_ok (by have := HBK.out; omega)]; have := HBK.out; omega), hbw1⟩

theorem szCons (ts : List Con) (a : Option Addr) (c : Nat) (left : Int) (w : World) (hr : RdL w (Con.ds ts) (.slice a ts.length c)) (h0 : 0 ≤ left) (h1 : left ≤ 1048576) :
    Calls Tryz.prog 77 #[.slice a ts.length c, .int .i64 left] w fun e w' => e = .returned (.int .i64 (purse left (Con.bulks ts))) ∧ Below w.heap.size w w' := by
  obtain ⟨_, _, e, h2, h3, h4⟩ := hr.eCon
  simp only [Value.slice.injEq, true_and] at e
  obtain ⟨rfl, rfl⟩ := e
  have hl := Con.bulks_length ts
  skip
  have H4 := hid h4
  clear hr h4 
  by_cases hs : left < ts.length
  · rw [purse_no (by omega)]
    go_enter Tryz.func77, Tryz.ntmps77
    go_wp2_with fail
    go_ret
    exact ⟨rfl, Below.refl _ _⟩
  · have hd0 : decide (left - (ts.length : Int) < 0) = false := by simp; omega
    go_enter Tryz.func77, Tryz.ntmps77
    go_wp2_with fail
    go_loopw [1, 5] (fun l i wr => ∃ (j : Nat) (L : Int), j ≤ ts.length ∧ i = .int .i64 j ∧ l = .int .i64 L ∧ Hid (L + (Con.bulks (ts.take j) + ts.length : Nat) = left + j) ∧ 0 ≤ L ∧ L ≤ 1048576 ∧ Below w.heap.size w wr) (fun _ i _ => ts.length - (intOf i).toNat)
    case atStart => exact ⟨0, left - ts.length, by omega, rfl, rfl, by show _ = _; simp [Con.bulks], by omega, by omega, Below.refl _ _⟩
    case round =>
      obtain ⟨j, L, hj, rfl, rfl, HL, hL0, hL1, hb⟩ := hrel
      by_cases hlt : j < ts.length
      · obtain ⟨b, o, rfl, hbl, hall⟩ := H4.out (by omega)
        obtain ⟨t, ht⟩ : ∃ t, ts[j]? = some t := ⟨_, List.getElem?_eq_getElem hlt⟩
        obtain ⟨n1, fs1⟩ := t
        obtain ⟨afs1, cfs1, q0, q1, hrk⟩ := hall j n1 fs1 ht
        clear hall H4
        have d0 := (hb.cell (p := ⟨b, o + j * 2, none⟩) hbl).trans q0
        have d1 := (hb.cell (p := ⟨b, o + j * 2 + 1, none⟩) hbl).trans q1
        have HT := hid ht
        have hc := szCon n1 fs1 afs1 cfs1 L wr (hrk.below hb) hL0 hL1
        have hst := Con.bulks_take ts j _ ht
        have hle := Con.bulks_le ts (j + 1)
        by_cases hp : ((Con.bulk (Con.mk n1 fs1) : Nat) : Int) ≤ L
        · rw [purse_ok hp] at hc
          have HC := hid hc
          have HS := hid hst
          clear ht hrk q0 q1 hc hst
          go_wp2_with fail
          refine HC.out.mono ?_
          clear HC
          rintro e w1 ⟨rfl, hb1⟩
          go_wp2_with fail
          go_roundw
          case rel => exact ⟨j + 1, _, by omega, by go_num, rfl, by show _ = _; have := HL.out; have := HS.out; omega, by omega, by omega, hb.trans (hb1.mono hb.size)⟩
          case measure => simp [intOf]; omega
        · rw [purse_no hp] at hc
          have HC := hid hc
          have HS := hid hst
          clear ht hrk q0 q1 hc hst
          go_wp2_with fail
          refine HC.out.mono ?_
          clear HC
          rintro e w1 ⟨rfl, hb1⟩
          go_wp2_with fail
          go_ret
          exact ⟨ret_int (by rw [purse_no (by have := HL.out; have := HS.out; omega)]), hb.trans (hb1.mono hb.size)⟩
      · obtain rfl : j = ts.length := by omega
        rw [List.take_length] at HL
        go_wp2_with fail
        go_ret
        exact ⟨ret_int (by rw [purse_ok (by have := HL.out; omega)]; have := HL.out; omega), hb⟩

end Go.Proofs.YtgpefnlpbjnjbaaGreat

namespace Go.Proofs.YtgpefnlpbjnjbaaGreat
open Go.ChangeShapes Go.WideShapes Go.ChangeAt Go.RowKit
open Go.Sort (grow)
set_option linter.unusedVariables false

abbrev SzDat : Prop := ∀ (n : ByteArray) (qs : List Con) (aqs : Option Addr) (cqs : Nat) (left : Int) (w : World), RdS w (Dat.d (Dat.mk n qs)) [.string n, .slice aqs qs.length cqs] → 0 ≤ left → left ≤ 1048576 →
  Calls Tryz.prog 42 #[.agg #[.string n, .slice aqs qs.length cqs], .int .i64 left] w fun e w' => e = .returned (.int .i64 (purse left (Dat.bulk (Dat.mk n qs)))) ∧ Below w.heap.size w w'
theorem szDat : SzDat := by
  intro n qs aqs cqs left w hr h0 h1
  have hbk : Dat.bulk (Dat.mk n qs) = n.size + Con.bulks qs := rfl
  obtain ⟨zn, hqs⟩ := hr.fDat
  by_cases hp0 : ((n.size : Nat) : Int) ≤ left
  case neg =>
    have HBK := hid hbk
    have HX0 := hid ((Boxes.nil w).alloc #[.string n, .slice aqs qs.length cqs] 76 (0, 0))
    have hbw0 : Below w.heap.size w (w.alloc (.cells #[.string n, .slice aqs qs.length cqs] 76)) := (Below.refl _ _).alloc (Nat.le_refl _) _
    have HBW := hid hbw0
    clear hr hbk hbw0 hqs
    go_enter Tryz.func42, Tryz.ntmps42
    go_wp2_with fail
    go_ret
    exact ⟨ret_int (by rw [purse_no (by have := HBK.out; omega)]), HBW.out⟩
  case pos =>
    skip
    have hc1 := fun (W : World) (hb : Below w.heap.size w W) => (szCons qs aqs cqs (left - n.size) W (hqs.below hb) (by omega) (by omega))
    by_cases hp1 : ((Con.bulks qs : Nat) : Int) ≤ left - n.size
    case neg =>
      rw [purse_no hp1] at hc1
      have HC1 := hid hc1
      have HBK := hid hbk
      have HX0 := hid ((Boxes.nil w).alloc #[.string n, .slice aqs qs.length cqs] 76 (0, 0))
      have hbw0 : Below w.heap.size w (w.alloc (.cells #[.string n, .slice aqs qs.length cqs] 76)) := (Below.refl _ _).alloc (Nat.le_refl _) _
      have HBW := hid hbw0
      clear hr hbk hbw0 hc1 hqs
      go_enter Tryz.func42, Tryz.ntmps42
      go_wp2_with fail
      refine (HC1.out _ HBW.out).mono ?_
      rintro e w1 ⟨rfl, hb1⟩
      have hbw1 := HBW.out.trans (hb1.mono (by simp))
      have hx1 := HX0.out.below hb1
      have HX1 := hid hx1
      clear hx1 hb1 HC1
      go_wp2_with fail
      go_ret
      exact ⟨ret_int (by rw [purse_no (by have := HBK.out; omega)]), hbw1⟩
    case pos =>
      rw [purse_ok hp1] at hc1
      have HC1 := hid hc1
      have HBK := hid hbk
      have HX0 := hid ((Boxes.nil w).alloc #[.string n, .slice aqs qs.length cqs] 76 (0, 0))
      have hbw0 : Below w.heap.size w (w.alloc (.cells #[.string n, .slice aqs qs.length cqs] 76)) := (Below.refl _ _).alloc (Nat.le_refl _) _
      have HBW := hid hbw0
      clear hr hbk hbw0 hc1 hqs
      go_enter Tryz.func42, Tryz.ntmps42
      go_wp2_with fail
      refine (HC1.out _ HBW.out).mono ?_
      rintro e w1 ⟨rfl, hb1⟩
      have hbw1 := HBW.out.trans (hb1.mono (by simp))
      have hx1 := HX0.out.below hb1
      have HX1 := hid hx1
      clear hx1 hb1 HC1
      go_wp2_with fail
      go_ret
      exact ⟨ret_int (by rw [purse_ok (by have := HBK.out; omega)]; have := HBK.out; omega), hbw1⟩

theorem szDats (ts : List Dat) (a : Option Addr) (c : Nat) (left : Int) (w : World) (hr : RdL w (Dat.ds ts) (.slice a ts.length c)) (h0 : 0 ≤ left) (h1 : left ≤ 1048576) :
    Calls Tryz.prog 19 #[.slice a ts.length c, .int .i64 left] w fun e w' => e = .returned (.int .i64 (purse left (Dat.bulks ts))) ∧ Below w.heap.size w w' := by
  obtain ⟨_, _, e, h2, h3, h4⟩ := hr.eDat
  simp only [Value.slice.injEq, true_and] at e
  obtain ⟨rfl, rfl⟩ := e
  have hl := Dat.bulks_length ts
  skip
  have H4 := hid h4
  clear hr h4 
  by_cases hs : left < ts.length
  · rw [purse_no (by omega)]
    go_enter Tryz.func19, Tryz.ntmps19
    go_wp2_with fail
    go_ret
    exact ⟨rfl, Below.refl _ _⟩
  · have hd0 : decide (left - (ts.length : Int) < 0) = false := by simp; omega
    go_enter Tryz.func19, Tryz.ntmps19
    go_wp2_with fail
    go_loopw [1, 5] (fun l i wr => ∃ (j : Nat) (L : Int), j ≤ ts.length ∧ i = .int .i64 j ∧ l = .int .i64 L ∧ Hid (L + (Dat.bulks (ts.take j) + ts.length : Nat) = left + j) ∧ 0 ≤ L ∧ L ≤ 1048576 ∧ Below w.heap.size w wr) (fun _ i _ => ts.length - (intOf i).toNat)
    case atStart => exact ⟨0, left - ts.length, by omega, rfl, rfl, by show _ = _; simp [Dat.bulks], by omega, by omega, Below.refl _ _⟩
    case round =>
      obtain ⟨j, L, hj, rfl, rfl, HL, hL0, hL1, hb⟩ := hrel
      by_cases hlt : j < ts.length
      · obtain ⟨b, o, rfl, hbl, hall⟩ := H4.out (by omega)
        obtain ⟨t, ht⟩ : ∃ t, ts[j]? = some t := ⟨_, List.getElem?_eq_getElem hlt⟩
        obtain ⟨n1, qs1⟩ := t
        obtain ⟨aqs1, cqs1, q0, q1, hrk⟩ := hall j n1 qs1 ht
        clear hall H4
        have d0 := (hb.cell (p := ⟨b, o + j * 2, none⟩) hbl).trans q0
        have d1 := (hb.cell (p := ⟨b, o + j * 2 + 1, none⟩) hbl).trans q1
        have HT := hid ht
        have hc := szDat n1 qs1 aqs1 cqs1 L wr (hrk.below hb) hL0 hL1
        have hst := Dat.bulks_take ts j _ ht
        have hle := Dat.bulks_le ts (j + 1)
        by_cases hp : ((Dat.bulk (Dat.mk n1 qs1) : Nat) : Int) ≤ L
        · rw [purse_ok hp] at hc
          have HC := hid hc
          have HS := hid hst
          clear ht hrk q0 q1 hc hst
          go_wp2_with fail
          refine HC.out.mono ?_
          clear HC
          rintro e w1 ⟨rfl, hb1⟩
          go_wp2_with fail
          go_roundw
          case rel => exact ⟨j + 1, _, by omega, by go_num, rfl, by show _ = _; have := HL.out; have := HS.out; omega, by omega, by omega, hb.trans (hb1.mono hb.size)⟩
          case measure => simp [intOf]; omega
        · rw [purse_no hp] at hc
          have HC := hid hc
          have HS := hid hst
          clear ht hrk q0 q1 hc hst
          go_wp2_with fail
          refine HC.out.mono ?_
          clear HC
          rintro e w1 ⟨rfl, hb1⟩
          go_wp2_with fail
          go_ret
          exact ⟨ret_int (by rw [purse_no (by have := HL.out; have := HS.out; omega)]), hb.trans (hb1.mono hb.size)⟩
      · obtain rfl : j = ts.length := by omega
        rw [List.take_length] at HL
        go_wp2_with fail
        go_ret
        exact ⟨ret_int (by rw [purse_ok (by have := HL.out; omega)]; have := HL.out; omega), hb⟩

end Go.Proofs.YtgpefnlpbjnjbaaGreat

namespace Go.Proofs.YtgpefnlpbjnjbaaGreat
open Go.ChangeShapes Go.WideShapes Go.ChangeAt Go.RowKit
open Go.Sort (grow)
set_option linter.unusedVariables false

abbrev SzPg : Prop := ∀ (ds : List Dat) (fs : List Df) (ads : Option Addr) (cds : Nat) (afs : Option Addr) (cfs : Nat) (left : Int) (w : World), RdS w (Pg.d (Pg.mk ds fs)) [.slice ads ds.length cds, .slice afs fs.length cfs] → 0 ≤ left → left ≤ 1048576 →
  Calls Tryz.prog 6 #[.agg #[.slice ads ds.length cds, .slice afs fs.length cfs], .int .i64 left] w fun e w' => e = .returned (.int .i64 (purse left (Pg.bulk (Pg.mk ds fs)))) ∧ Below w.heap.size w w'
theorem szPg : SzPg := by
  intro ds fs ads cds afs cfs left w hr h0 h1
  have hbk : Pg.bulk (Pg.mk ds fs) = Dat.bulks ds + Df.bulks fs := rfl
  obtain ⟨hds, hfs⟩ := hr.fPg
  have hc0 := fun (W : World) (hb : Below w.heap.size w W) => (szDats ds ads cds (left) W (hds.below hb) (by omega) (by omega))
  by_cases hp0 : ((Dat.bulks ds : Nat) : Int) ≤ left
  case neg =>
    rw [purse_no hp0] at hc0
    have HC0 := hid hc0
    have HBK := hid hbk
    have HX0 := hid ((Boxes.nil w).alloc #[.slice ads ds.length cds, .slice afs fs.length cfs] 25 (0, 0))
    have hbw0 : Below w.heap.size w (w.alloc (.cells #[.slice ads ds.length cds, .slice afs fs.length cfs] 25)) := (Below.refl _ _).alloc (Nat.le_refl _) _
    have HBW := hid hbw0
    clear hr hbk hbw0 hc0 hds hfs
    go_enter Tryz.func6, Tryz.ntmps6
    go_wp2_with fail
    refine (HC0.out _ HBW.out).mono ?_
    rintro e w1 ⟨rfl, hb1⟩
    have hbw1 := HBW.out.trans (hb1.mono (by simp))
    have hx1 := HX0.out.below hb1
    have HX1 := hid hx1
    clear hx1 hb1 HC0
    go_wp2_with fail
    go_ret
    exact ⟨ret_int (by rw [purse_no (by have := HBK.out; omega)]), hbw1⟩
  case pos =>
    rw [purse_ok hp0] at hc0
    have hc1 := fun (W : World) (hb : Below w.heap.size w W) => (szDfs fs afs cfs (left - (Dat.bulks ds : Nat)) W (hfs.below hb) (by omega) (by omega))
    by_cases hp1 : ((Df.bulks fs : Nat) : Int) ≤ left - (Dat.bulks ds : Nat)
    case neg =>
      rw [purse_no hp1] at hc1
      have HC0 := hid hc0
      have HC1 := hid hc1
      have HBK := hid hbk
      have HX0 := hid ((Boxes.nil w).alloc #[.slice ads ds.length cds, .slice afs fs.length cfs] 25 (0, 0))
      have hbw0 : Below w.heap.size w (w.alloc (.cells #[.slice ads ds.length cds, .slice afs fs.length cfs] 25)) := (Below.refl _ _).alloc (Nat.le_refl _) _
      have HBW := hid hbw0
      clear hr hbk hbw0 hc0 hc1 hds hfs
      go_enter Tryz.func6, Tryz.ntmps6
      go_wp2_with fail
      refine (HC0.out _ HBW.out).mono ?_
      rintro e w1 ⟨rfl, hb1⟩
      have hbw1 := HBW.out.trans (hb1.mono (by simp))
      have hx1 := HX0.out.below hb1
      have g1_1 := hx1.at 0 1 rfl rfl
      have HX1 := hid hx1
      clear hx1 hb1 HC0
      go_wp2_with fail
      refine (HC1.out _ hbw1).mono ?_
      rintro e w2 ⟨rfl, hb2⟩
      have hbw2 := hbw1.trans (hb2.mono hbw1.size)
      have hx2 := HX1.out.below hb2
      have HX2 := hid hx2
      clear hx2 hb2 HC1
      go_wp2_with fail
      go_ret
      exact ⟨ret_int (by rw [purse_no (by have := HBK.out; omega)]), hbw2⟩
    case pos =>
      rw [purse_ok hp1] at hc1
      have HC0 := hid hc0
      have HC1 := hid hc1
      have HBK := hid hbk
      have HX0 := hid ((Boxes.nil w).alloc #[.slice ads ds.length cds, .slice afs fs.length cfs] 25 (0, 0))
      have hbw0 : Below w.heap.size w (w.alloc (.cells #[.slice ads ds.length cds, .slice afs fs.length cfs] 25)) := (Below.refl _ _).alloc (Nat.le_refl _) _
      have HBW := hid hbw0
      clear hr hbk hbw0 hc0 hc1 hds hfs
      go_enter Tryz.func6, Tryz.ntmps6
      go_wp2_with fail
      refine (HC0.out _ HBW.out).mono ?_
      rintro e w1 ⟨rfl, hb1⟩
      have hbw1 := HBW.out.trans (hb1.mono (by simp))
      have hx1 := HX0.out.below hb1
      have g1_1 := hx1.at 0 1 rfl rfl
      have HX1 := hid hx1
      clear hx1 hb1 HC0
      go_wp2_with fail
      refine (HC1.out _ hbw1).mono ?_
      rintro e w2 ⟨rfl, hb2⟩
      have hbw2 := hbw1.trans (hb2.mono hbw1.size)
      have hx2 := HX1.out.below hb2
      have HX2 := hid hx2
      clear hx2 hb2 HC1
      go_wp2_with fail
      go_ret
      exact ⟨ret_int (by rw [purse_ok (by have := HBK.out; omega)]; have := HBK.out; omega), hbw2⟩

end Go.Proofs.YtgpefnlpbjnjbaaGreat

namespace Go.Proofs.YtgpefnlpbjnjbaaGreat
open Go.ChangeShapes Go.WideShapes Go.ChangeAt Go.RowKit
open Go.Sort (grow)
set_option linter.unusedVariables false

/-- Handed back: the call's own copy. -/
def GivesTy (k : Int) (n : ByteArray) (ks : List Ty) (w : World) (e : Ending) (w' : World) : Prop :=
  ∃ (aks : Option Addr) (cks : Nat), e = .returned (.agg #[.int .i64 k, .string n, .slice aks ks.length cks]) ∧ OwnS w' w.heap.size (Ty.d (Ty.mk k n ks)) [.int .i64 k, .string n, .slice aks ks.length cks] ∧ Below w.heap.size w w'
def GivesTys (ts : List Ty) (w : World) (e : Ending) (w' : World) : Prop :=
  ∃ (a : Option Addr) (c : Nat), e = .returned (.slice a ts.length c) ∧ OwnL w' w.heap.size (Ty.ds ts) (.slice a ts.length c) ∧ Below w.heap.size w w'
def ToTy (N : Nat) : Prop := ∀ (k : Int) (n : ByteArray) (ks : List Ty) (aks : Option Addr) (cks : Nat) (w : World), Ty.bulk (Ty.mk k n ks) < N → Ty.bulk (Ty.mk k n ks) ≤ 1048576 → RdS w (Ty.d (Ty.mk k n ks)) [.int .i64 k, .string n, .slice aks ks.length cks] →
  Calls Tryz.prog 91 #[.agg #[.int .i64 k, .string n, .slice aks ks.length cks]] w (GivesTy k n ks w)
def ToTys (N : Nat) : Prop := ∀ (ts : List Ty) (a : Option Addr) (c : Nat) (w : World), Ty.bulks ts < N → Ty.bulks ts ≤ 1048576 → RdL w (Ty.ds ts) (.slice a ts.length c) →
  Calls Tryz.prog 132 #[.slice a ts.length c] w (GivesTys ts w)
theorem toTy_step (N : Nat) (ih : ToTys N) : ToTy N := by
  intro k n ks aks cks w hN hM hr
  have hbk : Ty.bulk (Ty.mk k n ks) = n.size + Ty.bulks ks := rfl
  obtain ⟨⟨lok, hik⟩, zn, hks⟩ := hr.fTy
  have hc1 := fun (W : World) (hb : Below w.heap.size w W) => ih ks aks cks W (by omega) (by omega) (hks.below hb)
  have HC1 := hid hc1
  have hB0 : Below w.heap.size w (w.alloc (.cells #[.int .i64 k, .string n, .slice aks ks.length cks] 80)) := (Below.refl _ _).alloc (Nat.le_refl _) _
  clear hr hbk hM hc1 hB0 ih hN hks
  go_enter Tryz.func91, Tryz.ntmps91
  go_wp2_with fail
  refine (HC1.out _ ((((Below.refl _ _).alloc (Nat.le_refl _) _).alloc (by simp) _).alloc (by simp; omega) _)).mono ?_
  rintro e w1 ⟨aks_1, cks_1, rfl, ho1, hb1⟩
  obtain ⟨hcl1, hfz1⟩ := bcell hb1
  have hz1 : w.heap.size + 1 + 1 < w1.heap.size := by have := hb1.size; simp at this; omega
  have hbw1 : Below w.heap.size w w1 := ((((Below.refl _ _).alloc (Nat.le_refl _) _).alloc (by simp) _).alloc (by simp; omega) _).trans (hb1.mono (by simp; omega))
  have HO1 := hid (ho1.mono (base' := w.heap.size + 3) (by simp))
  have HT1 := hid (Nat.le_refl w1.heap.size)
  clear HC1 ho1
  go_wp2_with fail
  refine bodyPost_ret (v := .agg #[.int .i64 k, .string n, .slice aks_1 ks.length cks_1]) (by simp [results, Tryz.results91, go_sem, hcl1]) rfl ⟨aks_1, cks_1, rfl, ?_, ?_⟩
  · have hfin := (((((Keeps.refl (w.heap.size + 3) w1).setCell (p := ⟨w.heap.size + 1 + 1, 2, none⟩) (by simp) (.slice aks_1 ks.length cks_1)).setCell (p := ⟨w.heap.size + 1, 0, none⟩) (by simp) (.int .i64 k)).setCell (p := ⟨w.heap.size + 1, 1, none⟩) (by simp) (.string n)).setCell (p := ⟨w.heap.size + 1, 2, none⟩) (by simp) (.slice aks_1 ks.length cks_1))
    have hp := (((PartAll.cons (HO1.out.part.keeps hfin (by first | exact Nat.le_refl _ | omega) (Nat.le_refl _)) (PartAll.nil _ w1.heap.size w1.heap.size) (Nat.le_refl _) (by omega) (by omega)).plain (Rd.str_mk zn)).plain (Rd.int_mk lok hik))
    exact OwnS.mono (base := w.heap.size + 3) hp.own (by omega)
  · exact ((((hbw1.setCell (by simp; try omega) _).setCell (by simp; try omega) _).setCell (by simp; try omega) _).setCell (by simp; try omega) _)

theorem infoTy : (Tryz.prog.info? 59).map (fun i => (i.zero, i.size, i.bytes)) = some (some (.agg #[.int .i64 0, .string ⟨#[]⟩, .slice none 0 0]), 3, 48) := by kernel_rfl
theorem makeTy (n : Nat) (hn : n ≤ 1048576) : ∃ C : Array Value, C.size = n * 3 ∧ ∀ w : World, (Instr.makeSlice 57 (.int .i64 (n : Int)) (.int .i64 (n : Int))).run Tryz.prog w = .ok (.slice (some ⟨w.heap.size, 0, none⟩) n n) (w.alloc (.cells C 59)) := by
  obtain ⟨i, hi, hz, hs, hb⟩ := info_parts infoTy
  refine ⟨madeCells (Value.cells (.agg #[.int .i64 0, .string ⟨#[]⟩, .slice none 0 0])) (n * 3), size_madeCells _ _, fun w => ?_⟩
  have := run_make (P := Tryz.prog) w 57 59 i _ Tryz.underlying57 hi hz .i64 .i64 n n (by omega) (Int.le_refl _) (by rw [hb]; omega) (by omega)
  simp only [Int.toNat_natCast, hs] at this
  exact this
theorem toTys_step (N : Nat) (ih : ToTy N) : ToTys (N + 1) := by
  intro ts a c w hN hM hr
  obtain ⟨_, _, e, h2, h3, h4⟩ := hr.eTy
  simp only [Value.slice.injEq, true_and] at e
  obtain ⟨rfl, rfl⟩ := e
  have hl := Ty.bulks_length ts
  obtain ⟨C, hC, hmk⟩ := makeTy ts.length (by omega)
  have HC := hid hC
  have H4 := hid h4
  have IH := hid ih
  clear hr h4 hC ih
  go_enter Tryz.func132, Tryz.ntmps132
  go_wp2_with fail
  clear hmk
  go_loopw [4] (fun i wr => ∃ (j : Nat), j ≤ ts.length ∧ i = .int .i64 j ∧ ∃ (cur : Array Value) (F : List Nat), wr.heap[w.heap.size]? = some (.cells cur 59 (0, 0)) ∧ Hid (cur.size = ts.length * 3) ∧ Hid (RdAll wr (Ty.ds (ts.take j)) (cur.toList.take (j * 3)) F) ∧ Owned wr (w.heap.size + 1) F ∧ Below w.heap.size w wr) (fun i _ => ts.length - (intOf i).toNat)
  case atStart => exact ⟨0, by omega, rfl, C, [], heap_alloc_new _ _, HC.out, by show RdAll _ _ _ _; simpa [Ty.ds] using RdAll.nil, Owned.nil _ _, (Below.refl _ _).alloc (Nat.le_refl _) _⟩
  case round =>
    obtain ⟨j, hj, rfl, cur, F, hcur, HS, HR, HO, hb⟩ := hrel
    by_cases hlt : j < ts.length
    · obtain ⟨b, o, rfl, hbl, hall⟩ := H4.out (by omega)
      obtain ⟨t, ht⟩ : ∃ t, ts[j]? = some t := ⟨_, List.getElem?_eq_getElem hlt⟩
      obtain ⟨k1, n1, ks1⟩ := t
      obtain ⟨aks1, cks1, q0, q1, q2, hrk⟩ := hall j k1 n1 ks1 ht
      clear hall H4
      have d0 := (hb.cell (p := ⟨b, o + j * 3, none⟩) hbl).trans q0
      have d1 := (hb.cell (p := ⟨b, o + j * 3 + 1, none⟩) hbl).trans q1
      have d2 := (hb.cell (p := ⟨b, o + j * 3 + 2, none⟩) hbl).trans q2
      have HT := hid ht
      have hbg := Ty.bulk_get ts j _ ht
      have hfc := hrk.fTy
      have HFC := hid hfc
      have hc := IH.out k1 n1 ks1 aks1 cks1 wr (by omega) (by omega) (hrk.below hb)
      have HC := hid hc
      have HU := hid hcur
      clear ht hrk q0 q1 q2 hc hcur hfc
      go_wp2_with fail
      refine HC.out.mono ?_
      clear HC
      rintro e w1 ⟨aks2, cks2, rfl, hown, hb1⟩
      have hB : w.heap.size < wr.heap.size := (Array.getElem?_eq_some_iff.1 HU.out).1
      have hcur1 : w1.heap[w.heap.size]? = some (.cells cur 59 (0, 0)) := (hb1.block _ hB).trans HU.out
      have hsz : j * 3 + 2 < cur.size := by have := HS.out; omega
      have e0 : w1.cell? ⟨w.heap.size, j * 3, none⟩ = some (cur[j * 3]'(by omega)) := by simp [World.cell?, hcur1]
      have f0 : w1.frozen? ⟨w.heap.size, j * 3, none⟩ = false := by simp [World.frozen?, hcur1]
      have e1 : w1.cell? ⟨w.heap.size, j * 3 + 1, none⟩ = some (cur[j * 3 + 1]'(by omega)) := by simp [World.cell?, hcur1]
      have f1 : w1.frozen? ⟨w.heap.size, j * 3 + 1, none⟩ = false := by simp [World.frozen?, hcur1]
      have e2 : w1.cell? ⟨w.heap.size, j * 3 + 2, none⟩ = some (cur[j * 3 + 2]'(by omega)) := by simp [World.cell?, hcur1]
      have f2 : w1.frozen? ⟨w.heap.size, j * 3 + 2, none⟩ = false := by simp [World.frozen?, hcur1]
      have HCU := hid hcur1
      have HW := hid hown
      clear hcur1 hown
      go_wp2_with fail
      obtain ⟨F3, hr3, ho3⟩ := HW.out
      have hlo3 : ∀ y ∈ F3, wr.heap.size ≤ y := fun y hy => (ho3.2 y hy).1
      have hlo : ∀ x ∈ F, x < wr.heap.size := HO.lt
      obtain ⟨cur', H, g1, g2, g3, g4, g5⟩ := fill_step (m := 3) (base := w.heap.size + 1) HCU.out rfl (by have := HS.out; omega) (HR.out.below hb1) hr3 (HO.keep fun b hb => hb1.block b (hlo b hb)) (ho3.mono (by omega))
        (fun x hx => by have := (HO.2 x hx).1; omega) (fun x hx => by have := hlo3 x hx; omega) (fun x hx y hy => by have := hlo x hx; have := hlo3 y hy; omega)
      have hbw : Below w.heap.size w (setMany w1 w.heap.size (j * 3) [.int .i64 k1, .string n1, .slice aks2 ks1.length cks2]) := Below.setMany _ _ (hb.trans (hb1.mono hb.size)) (Nat.le_refl _)
      have htk : Ty.ds (ts.take (j + 1)) = Ty.ds (ts.take j) ++ [Ty.d (Ty.mk k1 n1 ks1)] := Ty.ds_snoc ts j _ HT.out
      go_roundw
      case rel => exact ⟨j + 1, by omega, by go_num, cur', H, g1, by show _ = _; rw [g2]; exact HS.out, by show RdAll _ _ _ _; rw [htk]; exact g3, g4, hbw⟩
      case measure => simp [intOf]; omega
    · obtain rfl : j = ts.length := by omega
      rw [List.take_length] at HR
      go_wp2_with fail
      go_ret
      obtain ⟨G, q1, q2⟩ := fill_done (m := 3) (base := w.heap.size) hcur HS.out (Ty.ds_length ts) (by omega) HR.out (HO.mono (by omega)) (Nat.le_refl _) (fun x hx => by have := (HO.2 x hx).1; omega)
      exact ⟨_, _, rfl, ⟨G, q1, q2⟩, hb⟩

theorem toTy_all : ∀ M, ToTy M ∧ ToTys M
  | 0 => ⟨fun _ _ _ _ _ _ h => absurd h (by omega), fun _ _ _ _ h => absurd h (by omega)⟩
  | M + 1 => by
    have h := toTy_all M
    have h2 := toTys_step M h.1
    exact ⟨toTy_step (M + 1) h2, h2⟩
theorem toTy (k : Int) (n : ByteArray) (ks : List Ty) (aks : Option Addr) (cks : Nat) (w : World) (hM : Ty.bulk (Ty.mk k n ks) ≤ 1048576) (hr : RdS w (Ty.d (Ty.mk k n ks)) [.int .i64 k, .string n, .slice aks ks.length cks]) :
    Calls Tryz.prog 91 #[.agg #[.int .i64 k, .string n, .slice aks ks.length cks]] w (GivesTy k n ks w) :=
  (toTy_all (Ty.bulk (Ty.mk k n ks) + 1)).1 k n ks aks cks w (by omega) hM hr
theorem toTys (ts : List Ty) (a : Option Addr) (c : Nat) (w : World) (hM : Ty.bulks ts ≤ 1048576) (hr : RdL w (Ty.ds ts) (.slice a ts.length c)) :
    Calls Tryz.prog 132 #[.slice a ts.length c] w (GivesTys ts w) :=
  (toTy_all (Ty.bulks ts + 1)).2 ts a c w (by omega) hM hr

end Go.Proofs.YtgpefnlpbjnjbaaGreat

namespace Go.Proofs.YtgpefnlpbjnjbaaGreat
open Go.ChangeShapes Go.WideShapes Go.ChangeAt Go.RowKit
open Go.Sort (grow)
set_option linter.unusedVariables false

/-- Handed back: the call's own copy. -/
def GivesCon (n : ByteArray) (fs : List Ty) (w : World) (e : Ending) (w' : World) : Prop :=
  ∃ (afs : Option Addr) (cfs : Nat), e = .returned (.agg #[.string n, .slice afs fs.length cfs]) ∧ OwnS w' w.heap.size (Con.d (Con.mk n fs)) [.string n, .slice afs fs.length cfs] ∧ Below w.heap.size w w'
def GivesCons (ts : List Con) (w : World) (e : Ending) (w' : World) : Prop :=
  ∃ (a : Option Addr) (c : Nat), e = .returned (.slice a ts.length c) ∧ OwnL w' w.heap.size (Con.ds ts) (.slice a ts.length c) ∧ Below w.heap.size w w'
abbrev ToCon : Prop := ∀ (n : ByteArray) (fs : List Ty) (afs : Option Addr) (cfs : Nat) (w : World), Con.bulk (Con.mk n fs) ≤ 1048576 → RdS w (Con.d (Con.mk n fs)) [.string n, .slice afs fs.length cfs] →
  Calls Tryz.prog 131 #[.agg #[.string n, .slice afs fs.length cfs]] w (GivesCon n fs w)
theorem toCon : ToCon := by
  intro n fs afs cfs w hM hr
  have hbk : Con.bulk (Con.mk n fs) = n.size + Ty.bulks fs := rfl
  obtain ⟨zn, hfs⟩ := hr.fCon
  have hc1 := fun (W : World) (hb : Below w.heap.size w W) => toTys fs afs cfs W (by omega) (hfs.below hb)
  have HC1 := hid hc1
  have hB0 : Below w.heap.size w (w.alloc (.cells #[.string n, .slice afs fs.length cfs] 167)) := (Below.refl _ _).alloc (Nat.le_refl _) _
  clear hr hbk hM hc1 hB0 hfs
  go_enter Tryz.func131, Tryz.ntmps131
  go_wp2_with fail
  refine (HC1.out _ ((((Below.refl _ _).alloc (Nat.le_refl _) _).alloc (by simp) _).alloc (by simp; omega) _)).mono ?_
  rintro e w1 ⟨afs_1, cfs_1, rfl, ho1, hb1⟩
  obtain ⟨hcl1, hfz1⟩ := bcell hb1
  have hz1 : w.heap.size + 1 + 1 < w1.heap.size := by have := hb1.size; simp at this; omega
  have hbw1 : Below w.heap.size w w1 := ((((Below.refl _ _).alloc (Nat.le_refl _) _).alloc (by simp) _).alloc (by simp; omega) _).trans (hb1.mono (by simp; omega))
  have HO1 := hid (ho1.mono (base' := w.heap.size + 3) (by simp))
  have HT1 := hid (Nat.le_refl w1.heap.size)
  clear HC1 ho1
  go_wp2_with fail
  refine bodyPost_ret (v := .agg #[.string n, .slice afs_1 fs.length cfs_1]) (by simp [results, Tryz.results131, go_sem, hcl1]) rfl ⟨afs_1, cfs_1, rfl, ?_, ?_⟩
  · have hfin := ((((Keeps.refl (w.heap.size + 3) w1).setCell (p := ⟨w.heap.size + 1 + 1, 1, none⟩) (by simp) (.slice afs_1 fs.length cfs_1)).setCell (p := ⟨w.heap.size + 1, 0, none⟩) (by simp) (.string n)).setCell (p := ⟨w.heap.size + 1, 1, none⟩) (by simp) (.slice afs_1 fs.length cfs_1))
    have hp := ((PartAll.cons (HO1.out.part.keeps hfin (by first | exact Nat.le_refl _ | omega) (Nat.le_refl _)) (PartAll.nil _ w1.heap.size w1.heap.size) (Nat.le_refl _) (by omega) (by omega)).plain (Rd.str_mk zn))
    exact OwnS.mono (base := w.heap.size + 3) hp.own (by omega)
  · exact (((hbw1.setCell (by simp; try omega) _).setCell (by simp; try omega) _).setCell (by simp; try omega) _)

theorem infoCon : (Tryz.prog.info? 116).map (fun i => (i.zero, i.size, i.bytes)) = some (some (.agg #[.string ⟨#[]⟩, .slice none 0 0]), 2, 40) := by kernel_rfl
theorem makeCon (n : Nat) (hn : n ≤ 1048576) : ∃ C : Array Value, C.size = n * 2 ∧ ∀ w : World, (Instr.makeSlice 93 (.int .i64 (n : Int)) (.int .i64 (n : Int))).run Tryz.prog w = .ok (.slice (some ⟨w.heap.size, 0, none⟩) n n) (w.alloc (.cells C 116)) := by
  obtain ⟨i, hi, hz, hs, hb⟩ := info_parts infoCon
  refine ⟨madeCells (Value.cells (.agg #[.string ⟨#[]⟩, .slice none 0 0])) (n * 2), size_madeCells _ _, fun w => ?_⟩
  have := run_make (P := Tryz.prog) w 93 116 i _ Tryz.underlying93 hi hz .i64 .i64 n n (by omega) (Int.le_refl _) (by rw [hb]; omega) (by omega)
  simp only [Int.toNat_natCast, hs] at this
  exact this
theorem toCons (ts : List Con) (a : Option Addr) (c : Nat) (w : World) (hM : Con.bulks ts ≤ 1048576) (hr : RdL w (Con.ds ts) (.slice a ts.length c)) :
    Calls Tryz.prog 90 #[.slice a ts.length c] w (GivesCons ts w) := by
  obtain ⟨_, _, e, h2, h3, h4⟩ := hr.eCon
  simp only [Value.slice.injEq, true_and] at e
  obtain ⟨rfl, rfl⟩ := e
  have hl := Con.bulks_length ts
  obtain ⟨C, hC, hmk⟩ := makeCon ts.length (by omega)
  have HC := hid hC
  have H4 := hid h4
  clear hr h4 hC
  go_enter Tryz.func90, Tryz.ntmps90
  go_wp2_with fail
  clear hmk
  go_loopw [4] (fun i wr => ∃ (j : Nat), j ≤ ts.length ∧ i = .int .i64 j ∧ ∃ (cur : Array Value) (F : List Nat), wr.heap[w.heap.size]? = some (.cells cur 116 (0, 0)) ∧ Hid (cur.size = ts.length * 2) ∧ Hid (RdAll wr (Con.ds (ts.take j)) (cur.toList.take (j * 2)) F) ∧ Owned wr (w.heap.size + 1) F ∧ Below w.heap.size w wr) (fun i _ => ts.length - (intOf i).toNat)
  case atStart => exact ⟨0, by omega, rfl, C, [], heap_alloc_new _ _, HC.out, by show RdAll _ _ _ _; simpa [Con.ds] using RdAll.nil, Owned.nil _ _, (Below.refl _ _).alloc (Nat.le_refl _) _⟩
  case round =>
    obtain ⟨j, hj, rfl, cur, F, hcur, HS, HR, HO, hb⟩ := hrel
    by_cases hlt : j < ts.length
    · obtain ⟨b, o, rfl, hbl, hall⟩ := H4.out (by omega)
      obtain ⟨t, ht⟩ : ∃ t, ts[j]? = some t := ⟨_, List.getElem?_eq_getElem hlt⟩
      obtain ⟨n1, fs1⟩ := t
      obtain ⟨afs1, cfs1, q0, q1, hrk⟩ := hall j n1 fs1 ht
      clear hall H4
      have d0 := (hb.cell (p := ⟨b, o + j * 2, none⟩) hbl).trans q0
      have d1 := (hb.cell (p := ⟨b, o + j * 2 + 1, none⟩) hbl).trans q1
      have HT := hid ht
      have hbg := Con.bulk_get ts j _ ht
      have hfc := hrk.fCon
      have HFC := hid hfc
      have hc := toCon n1 fs1 afs1 cfs1 wr (by omega) (hrk.below hb)
      have HC := hid hc
      have HU := hid hcur
      clear ht hrk q0 q1 hc hcur hfc
      go_wp2_with fail
      refine HC.out.mono ?_
      clear HC
      rintro e w1 ⟨afs2, cfs2, rfl, hown, hb1⟩
      have hB : w.heap.size < wr.heap.size := (Array.getElem?_eq_some_iff.1 HU.out).1
      have hcur1 : w1.heap[w.heap.size]? = some (.cells cur 116 (0, 0)) := (hb1.block _ hB).trans HU.out
      have hsz : j * 2 + 1 < cur.size := by have := HS.out; omega
      have e0 : w1.cell? ⟨w.heap.size, j * 2, none⟩ = some (cur[j * 2]'(by omega)) := by simp [World.cell?, hcur1]
      have f0 : w1.frozen? ⟨w.heap.size, j * 2, none⟩ = false := by simp [World.frozen?, hcur1]
      have e1 : w1.cell? ⟨w.heap.size, j * 2 + 1, none⟩ = some (cur[j * 2 + 1]'(by omega)) := by simp [World.cell?, hcur1]
      have f1 : w1.frozen? ⟨w.heap.size, j * 2 + 1, none⟩ = false := by simp [World.frozen?, hcur1]
      have HCU := hid hcur1
      have HW := hid hown
      clear hcur1 hown
      go_wp2_with fail
      obtain ⟨F3, hr3, ho3⟩ := HW.out
      have hlo3 : ∀ y ∈ F3, wr.heap.size ≤ y := fun y hy => (ho3.2 y hy).1
      have hlo : ∀ x ∈ F, x < wr.heap.size := HO.lt
      obtain ⟨cur', H, g1, g2, g3, g4, g5⟩ := fill_step (m := 2) (base := w.heap.size + 1) HCU.out rfl (by have := HS.out; omega) (HR.out.below hb1) hr3 (HO.keep fun b hb => hb1.block b (hlo b hb)) (ho3.mono (by omega))
        (fun x hx => by have := (HO.2 x hx).1; omega) (fun x hx => by have := hlo3 x hx; omega) (fun x hx y hy => by have := hlo x hx; have := hlo3 y hy; omega)
      have hbw : Below w.heap.size w (setMany w1 w.heap.size (j * 2) [.string n1, .slice afs2 fs1.length cfs2]) := Below.setMany _ _ (hb.trans (hb1.mono hb.size)) (Nat.le_refl _)
      have htk : Con.ds (ts.take (j + 1)) = Con.ds (ts.take j) ++ [Con.d (Con.mk n1 fs1)] := Con.ds_snoc ts j _ HT.out
      go_roundw
      case rel => exact ⟨j + 1, by omega, by go_num, cur', H, g1, by show _ = _; rw [g2]; exact HS.out, by show RdAll _ _ _ _; rw [htk]; exact g3, g4, hbw⟩
      case measure => simp [intOf]; omega
    · obtain rfl : j = ts.length := by omega
      rw [List.take_length] at HR
      go_wp2_with fail
      go_ret
      obtain ⟨G, q1, q2⟩ := fill_done (m := 2) (base := w.heap.size) hcur HS.out (Con.ds_length ts) (by omega) HR.out (HO.mono (by omega)) (Nat.le_refl _) (fun x hx => by have := (HO.2 x hx).1; omega)
      exact ⟨_, _, rfl, ⟨G, q1, q2⟩, hb⟩

end Go.Proofs.YtgpefnlpbjnjbaaGreat

namespace Go.Proofs.YtgpefnlpbjnjbaaGreat
open Go.ChangeShapes Go.WideShapes Go.ChangeAt Go.RowKit
open Go.Sort (grow)
set_option linter.unusedVariables false

/-- Handed back: the call's own copy. -/
def GivesDat (n : ByteArray) (qs : List Con) (w : World) (e : Ending) (w' : World) : Prop :=
  ∃ (aqs : Option Addr) (cqs : Nat), e = .returned (.agg #[.string n, .slice aqs qs.length cqs]) ∧ OwnS w' w.heap.size (Dat.d (Dat.mk n qs)) [.string n, .slice aqs qs.length cqs] ∧ Below w.heap.size w w'
def GivesDats (ts : List Dat) (w : World) (e : Ending) (w' : World) : Prop :=
  ∃ (a : Option Addr) (c : Nat), e = .returned (.slice a ts.length c) ∧ OwnL w' w.heap.size (Dat.ds ts) (.slice a ts.length c) ∧ Below w.heap.size w w'
abbrev ToDat : Prop := ∀ (n : ByteArray) (qs : List Con) (aqs : Option Addr) (cqs : Nat) (w : World), Dat.bulk (Dat.mk n qs) ≤ 1048576 → RdS w (Dat.d (Dat.mk n qs)) [.string n, .slice aqs qs.length cqs] →
  Calls Tryz.prog 50 #[.agg #[.string n, .slice aqs qs.length cqs]] w (GivesDat n qs w)
theorem toDat : ToDat := by
  intro n qs aqs cqs w hM hr
  have hbk : Dat.bulk (Dat.mk n qs) = n.size + Con.bulks qs := rfl
  obtain ⟨zn, hqs⟩ := hr.fDat
  have hc1 := fun (W : World) (hb : Below w.heap.size w W) => toCons qs aqs cqs W (by omega) (hqs.below hb)
  have HC1 := hid hc1
  have hB0 : Below w.heap.size w (w.alloc (.cells #[.string n, .slice aqs qs.length cqs] 76)) := (Below.refl _ _).alloc (Nat.le_refl _) _
  clear hr hbk hM hc1 hB0 hqs
  go_enter Tryz.func50, Tryz.ntmps50
  go_wp2_with fail
  refine (HC1.out _ ((((Below.refl _ _).alloc (Nat.le_refl _) _).alloc (by simp) _).alloc (by simp; omega) _)).mono ?_
  rintro e w1 ⟨aqs_1, cqs_1, rfl, ho1, hb1⟩
  obtain ⟨hcl1, hfz1⟩ := bcell hb1
  have hz1 : w.heap.size + 1 + 1 < w1.heap.size := by have := hb1.size; simp at this; omega
  have hbw1 : Below w.heap.size w w1 := ((((Below.refl _ _).alloc (Nat.le_refl _) _).alloc (by simp) _).alloc (by simp; omega) _).trans (hb1.mono (by simp; omega))
  have HO1 := hid (ho1.mono (base' := w.heap.size + 3) (by simp))
  have HT1 := hid (Nat.le_refl w1.heap.size)
  clear HC1 ho1
  go_wp2_with fail
  refine bodyPost_ret (v := .agg #[.string n, .slice aqs_1 qs.length cqs_1]) (by simp [results, Tryz.results50, go_sem, hcl1]) rfl ⟨aqs_1, cqs_1, rfl, ?_, ?_⟩
  · have hfin := ((((Keeps.refl (w.heap.size + 3) w1).setCell (p := ⟨w.heap.size + 1 + 1, 1, none⟩) (by simp) (.slice aqs_1 qs.length cqs_1)).setCell (p := ⟨w.heap.size + 1, 0, none⟩) (by simp) (.string n)).setCell (p := ⟨w.heap.size + 1, 1, none⟩) (by simp) (.slice aqs_1 qs.length cqs_1))
    have hp := ((PartAll.cons (HO1.out.part.keeps hfin (by first | exact Nat.le_refl _ | omega) (Nat.le_refl _)) (PartAll.nil _ w1.heap.size w1.heap.size) (Nat.le_refl _) (by omega) (by omega)).plain (Rd.str_mk zn))
    exact OwnS.mono (base := w.heap.size + 3) hp.own (by omega)
  · exact (((hbw1.setCell (by simp; try omega) _).setCell (by simp; try omega) _).setCell (by simp; try omega) _)

theorem infoDat : (Tryz.prog.info? 95).map (fun i => (i.zero, i.size, i.bytes)) = some (some (.agg #[.string ⟨#[]⟩, .slice none 0 0]), 2, 40) := by kernel_rfl
theorem makeDat (n : Nat) (hn : n ≤ 1048576) : ∃ C : Array Value, C.size = n * 2 ∧ ∀ w : World, (Instr.makeSlice 29 (.int .i64 (n : Int)) (.int .i64 (n : Int))).run Tryz.prog w = .ok (.slice (some ⟨w.heap.size, 0, none⟩) n n) (w.alloc (.cells C 95)) := by
  obtain ⟨i, hi, hz, hs, hb⟩ := info_parts infoDat
  refine ⟨madeCells (Value.cells (.agg #[.string ⟨#[]⟩, .slice none 0 0])) (n * 2), size_madeCells _ _, fun w => ?_⟩
  have := run_make (P := Tryz.prog) w 29 95 i _ Tryz.underlying29 hi hz .i64 .i64 n n (by omega) (Int.le_refl _) (by rw [hb]; omega) (by omega)
  simp only [Int.toNat_natCast, hs] at this
  exact this
theorem toDats (ts : List Dat) (a : Option Addr) (c : Nat) (w : World) (hM : Dat.bulks ts ≤ 1048576) (hr : RdL w (Dat.ds ts) (.slice a ts.length c)) :
    Calls Tryz.prog 24 #[.slice a ts.length c] w (GivesDats ts w) := by
  obtain ⟨_, _, e, h2, h3, h4⟩ := hr.eDat
  simp only [Value.slice.injEq, true_and] at e
  obtain ⟨rfl, rfl⟩ := e
  have hl := Dat.bulks_length ts
  obtain ⟨C, hC, hmk⟩ := makeDat ts.length (by omega)
  have HC := hid hC
  have H4 := hid h4
  clear hr h4 hC
  go_enter Tryz.func24, Tryz.ntmps24
  go_wp2_with fail
  clear hmk
  go_loopw [4] (fun i wr => ∃ (j : Nat), j ≤ ts.length ∧ i = .int .i64 j ∧ ∃ (cur : Array Value) (F : List Nat), wr.heap[w.heap.size]? = some (.cells cur 95 (0, 0)) ∧ Hid (cur.size = ts.length * 2) ∧ Hid (RdAll wr (Dat.ds (ts.take j)) (cur.toList.take (j * 2)) F) ∧ Owned wr (w.heap.size + 1) F ∧ Below w.heap.size w wr) (fun i _ => ts.length - (intOf i).toNat)
  case atStart => exact ⟨0, by omega, rfl, C, [], heap_alloc_new _ _, HC.out, by show RdAll _ _ _ _; simpa [Dat.ds] using RdAll.nil, Owned.nil _ _, (Below.refl _ _).alloc (Nat.le_refl _) _⟩
  case round =>
    obtain ⟨j, hj, rfl, cur, F, hcur, HS, HR, HO, hb⟩ := hrel
    by_cases hlt : j < ts.length
    · obtain ⟨b, o, rfl, hbl, hall⟩ := H4.out (by omega)
      obtain ⟨t, ht⟩ : ∃ t, ts[j]? = some t := ⟨_, List.getElem?_eq_getElem hlt⟩
      obtain ⟨n1, qs1⟩ := t
      obtain ⟨aqs1, cqs1, q0, q1, hrk⟩ := hall j n1 qs1 ht
      clear hall H4
      have d0 := (hb.cell (p := ⟨b, o + j * 2, none⟩) hbl).trans q0
      have d1 := (hb.cell (p := ⟨b, o + j * 2 + 1, none⟩) hbl).trans q1
      have HT := hid ht
      have hbg := Dat.bulk_get ts j _ ht
      have hfc := hrk.fDat
      have HFC := hid hfc
      have hc := toDat n1 qs1 aqs1 cqs1 wr (by omega) (hrk.below hb)
      have HC := hid hc
      have HU := hid hcur
      clear ht hrk q0 q1 hc hcur hfc
      go_wp2_with fail
      refine HC.out.mono ?_
      clear HC
      rintro e w1 ⟨aqs2, cqs2, rfl, hown, hb1⟩
      have hB : w.heap.size < wr.heap.size := (Array.getElem?_eq_some_iff.1 HU.out).1
      have hcur1 : w1.heap[w.heap.size]? = some (.cells cur 95 (0, 0)) := (hb1.block _ hB).trans HU.out
      have hsz : j * 2 + 1 < cur.size := by have := HS.out; omega
      have e0 : w1.cell? ⟨w.heap.size, j * 2, none⟩ = some (cur[j * 2]'(by omega)) := by simp [World.cell?, hcur1]
      have f0 : w1.frozen? ⟨w.heap.size, j * 2, none⟩ = false := by simp [World.frozen?, hcur1]
      have e1 : w1.cell? ⟨w.heap.size, j * 2 + 1, none⟩ = some (cur[j * 2 + 1]'(by omega)) := by simp [World.cell?, hcur1]
      have f1 : w1.frozen? ⟨w.heap.size, j * 2 + 1, none⟩ = false := by simp [World.frozen?, hcur1]
      have HCU := hid hcur1
      have HW := hid hown
      clear hcur1 hown
      go_wp2_with fail
      obtain ⟨F3, hr3, ho3⟩ := HW.out
      have hlo3 : ∀ y ∈ F3, wr.heap.size ≤ y := fun y hy => (ho3.2 y hy).1
      have hlo : ∀ x ∈ F, x < wr.heap.size := HO.lt
      obtain ⟨cur', H, g1, g2, g3, g4, g5⟩ := fill_step (m := 2) (base := w.heap.size + 1) HCU.out rfl (by have := HS.out; omega) (HR.out.below hb1) hr3 (HO.keep fun b hb => hb1.block b (hlo b hb)) (ho3.mono (by omega))
        (fun x hx => by have := (HO.2 x hx).1; omega) (fun x hx => by have := hlo3 x hx; omega) (fun x hx y hy => by have := hlo x hx; have := hlo3 y hy; omega)
      have hbw : Below w.heap.size w (setMany w1 w.heap.size (j * 2) [.string n1, .slice aqs2 qs1.length cqs2]) := Below.setMany _ _ (hb.trans (hb1.mono hb.size)) (Nat.le_refl _)
      have htk : Dat.ds (ts.take (j + 1)) = Dat.ds (ts.take j) ++ [Dat.d (Dat.mk n1 qs1)] := Dat.ds_snoc ts j _ HT.out
      go_roundw
      case rel => exact ⟨j + 1, by omega, by go_num, cur', H, g1, by show _ = _; rw [g2]; exact HS.out, by show RdAll _ _ _ _; rw [htk]; exact g3, g4, hbw⟩
      case measure => simp [intOf]; omega
    · obtain rfl : j = ts.length := by omega
      rw [List.take_length] at HR
      go_wp2_with fail
      go_ret
      obtain ⟨G, q1, q2⟩ := fill_done (m := 2) (base := w.heap.size) hcur HS.out (Dat.ds_length ts) (by omega) HR.out (HO.mono (by omega)) (Nat.le_refl _) (fun x hx => by have := (HO.2 x hx).1; omega)
      exact ⟨_, _, rfl, ⟨G, q1, q2⟩, hb⟩

end Go.Proofs.YtgpefnlpbjnjbaaGreat

namespace Go.Proofs.YtgpefnlpbjnjbaaGreat
open Go.ChangeShapes Go.WideShapes Go.ChangeAt Go.RowKit
open Go.Sort (grow)
set_option linter.unusedVariables false

/-- Handed back: the call's own copy. -/
def GivesTm (k : Int) (u : Int) (n : ByteArray) (tk : Int) (tn : ByteArray) (tks : List Ty) (ns : List ByteArray) (ks : List Tm) (w : World) (e : Ending) (w' : World) : Prop :=
  ∃ (atks : Option Addr) (ctks : Nat) (ans : Option Addr) (cns : Nat) (aks : Option Addr) (cks : Nat), e = .returned (.agg #[.int .i64 k, .int .i64 u, .string n, .int .i64 tk, .string tn, .slice atks tks.length ctks, .slice ans ns.length cns, .slice aks ks.length cks]) ∧ OwnS w' w.heap.size (Tm.d (Tm.mk k u n (Ty.mk tk tn tks) ns ks)) [.int .i64 k, .int .i64 u, .string n, .int .i64 tk, .string tn, .slice atks tks.length ctks, .slice ans ns.length cns, .slice aks ks.length cks] ∧ Below w.heap.size w w'
def GivesTms (ts : List Tm) (w : World) (e : Ending) (w' : World) : Prop :=
  ∃ (a : Option Addr) (c : Nat), e = .returned (.slice a ts.length c) ∧ OwnL w' w.heap.size (Tm.ds ts) (.slice a ts.length c) ∧ Below w.heap.size w w'
def ToTm (N : Nat) : Prop := ∀ (k : Int) (u : Int) (n : ByteArray) (tk : Int) (tn : ByteArray) (tks : List Ty) (ns : List ByteArray) (ks : List Tm) (atks : Option Addr) (ctks : Nat) (ans : Option Addr) (cns : Nat) (aks : Option Addr) (cks : Nat) (w : World), Tm.bulk (Tm.mk k u n (Ty.mk tk tn tks) ns ks) < N → Tm.bulk (Tm.mk k u n (Ty.mk tk tn tks) ns ks) ≤ 1048576 → RdS w (Tm.d (Tm.mk k u n (Ty.mk tk tn tks) ns ks)) [.int .i64 k, .int .i64 u, .string n, .int .i64 tk, .string tn, .slice atks tks.length ctks, .slice ans ns.length cns, .slice aks ks.length cks] →
  Calls Tryz.prog 92 #[.agg #[.int .i64 k, .int .i64 u, .string n, .int .i64 tk, .string tn, .slice atks tks.length ctks, .slice ans ns.length cns, .slice aks ks.length cks]] w (GivesTm k u n tk tn tks ns ks w)
def ToTms (N : Nat) : Prop := ∀ (ts : List Tm) (a : Option Addr) (c : Nat) (w : World), Tm.bulks ts < N → Tm.bulks ts ≤ 1048576 → RdL w (Tm.ds ts) (.slice a ts.length c) →
  Calls Tryz.prog 134 #[.slice a ts.length c] w (GivesTms ts w)
theorem toTm_step (N : Nat) (ih : ToTms N) : ToTm N := by
  intro k u n tk tn tks ns ks atks ctks ans cns aks cks w hN hM hr
  have hbk : Tm.bulk (Tm.mk k u n (Ty.mk tk tn tks) ns ks) = n.size + Ty.bulk (Ty.mk tk tn tks) + Sr.bulks ns + Tm.bulks ks := rfl
  obtain ⟨⟨lok, hik⟩, ⟨lou, hiu⟩, zn, ⟨⟨lotk, hitk⟩, ztn, htks⟩, hns, hks⟩ := hr.fTm
  have hc1 := fun (W : World) (hb : Below w.heap.size w W) => toTy tk tn tks atks ctks W (by omega) ((RdS.subTm_t hr).below hb)
  have hc2 := fun (W : World) (hb : Below w.heap.size w W) => toSrs ns ans cns W (by omega) (hns.below hb)
  have hc3 := fun (W : World) (hb : Below w.heap.size w W) => ih ks aks cks W (by omega) (by omega) (hks.below hb)
  have HC1 := hid hc1
  have HC2 := hid hc2
  have HC3 := hid hc3
  have hB0 : Below w.heap.size w (w.alloc (.cells #[.int .i64 k, .int .i64 u, .string n, .int .i64 tk, .string tn, .slice atks tks.length ctks, .slice ans ns.length cns, .slice aks ks.length cks] 83)) := (Below.refl _ _).alloc (Nat.le_refl _) _
  clear hr hbk hM hc1 hc2 hc3 hB0 ih hN htks hns hks
  go_enter Tryz.func92, Tryz.ntmps92
  go_wp2_with fail
  refine (HC1.out _ ((((Below.refl _ _).alloc (Nat.le_refl _) _).alloc (by simp) _).alloc (by simp; omega) _)).mono ?_
  rintro e w1 ⟨atks_1, ctks_1, rfl, ho1, hb1⟩
  obtain ⟨hcl1, hfz1⟩ := bcell hb1
  have hz1 : w.heap.size + 1 + 1 < w1.heap.size := by have := hb1.size; simp at this; omega
  have hy1 : w.heap.size + 1 < w1.heap.size := by omega
  have hx1 : w.heap.size < w1.heap.size := by omega
  have hbw1 : Below w.heap.size w w1 := ((((Below.refl _ _).alloc (Nat.le_refl _) _).alloc (by simp) _).alloc (by simp; omega) _).trans (hb1.mono (by simp; omega))
  have HO1 := hid (ho1.mono (base' := w.heap.size + 3) (by simp))
  have HT1 := hid (Nat.le_refl w1.heap.size)
  clear HC1 ho1
  have hbs1 := (((hbw1.setCell (p := ⟨w.heap.size + 1 + 1, 3, none⟩) (by simp; omega) (.int .i64 tk)).setCell (p := ⟨w.heap.size + 1 + 1, 4, none⟩) (by simp; omega) (.string tn)).setCell (p := ⟨w.heap.size + 1 + 1, 5, none⟩) (by simp; omega) (.slice atks_1 tks.length ctks_1))
  have HKS1 := hid ((((Keeps.refl (w.heap.size + 3) w1).setCell (p := ⟨w.heap.size + 1 + 1, 3, none⟩) (by simp) (.int .i64 tk)).setCell (p := ⟨w.heap.size + 1 + 1, 4, none⟩) (by simp) (.string tn)).setCell (p := ⟨w.heap.size + 1 + 1, 5, none⟩) (by simp) (.slice atks_1 tks.length ctks_1))
  go_wp2_with fail
  refine (HC2.out _ hbs1).mono ?_
  rintro e w2 ⟨ans_2, cns_2, rfl, ho2, hb2⟩
  obtain ⟨hcl2, hfz2⟩ := bcell hb2
  have hz2 : w.heap.size + 1 + 1 < w2.heap.size := by have := hb2.size; simp at this; omega
  have hy2 : w.heap.size + 1 < w2.heap.size := by omega
  have hx2 : w.heap.size < w2.heap.size := by omega
  have hbw2 : Below w.heap.size w w2 := hbs1.trans (hb2.mono hbs1.size)
  have hsz2 : w1.heap.size ≤ w2.heap.size := by have := hb2.size; simpa using this
  have HK2 := hid (HKS1.out.below hb2)
  have HO2 := hid (ho2.mono (base' := w1.heap.size) (by simp))
  clear HC2 ho2 HKS1
  have hbs2 := (hbw2.setCell (p := ⟨w.heap.size + 1 + 1, 6, none⟩) (by simp; omega) (.slice ans_2 ns.length cns_2))
  have HKS2 := hid (HK2.out.setCell (p := ⟨w.heap.size + 1 + 1, 6, none⟩) (by simp) (.slice ans_2 ns.length cns_2))
  go_wp2_with fail
  refine (HC3.out _ hbs2).mono ?_
  rintro e w3 ⟨aks_3, cks_3, rfl, ho3, hb3⟩
  obtain ⟨hcl3, hfz3⟩ := bcell hb3
  have hz3 : w.heap.size + 1 + 1 < w3.heap.size := by have := hb3.size; simp at this; omega
  have hbw3 : Below w.heap.size w w3 := hbs2.trans (hb3.mono hbs2.size)
  have hsz3 : w2.heap.size ≤ w3.heap.size := by have := hb3.size; simpa using this
  have HK3 := hid (HKS2.out.below hb3)
  have HO3 := hid (ho3.mono (base' := w2.heap.size) (by simp))
  clear HC3 ho3 HKS2
  go_wp2_with fail
  refine bodyPost_ret (v := .agg #[.int .i64 k, .int .i64 u, .string n, .int .i64 tk, .string tn, .slice atks_1 tks.length ctks_1, .slice ans_2 ns.length cns_2, .slice aks_3 ks.length cks_3]) (by simp [results, Tryz.results92, go_sem, hcl1, hcl2, hcl3, hy1, hy2]) rfl ⟨atks_1, ctks_1, ans_2, cns_2, aks_3, cks_3, rfl, ?_, ?_⟩
  · have hfin := (((((((((HK3.out.setCell (p := ⟨w.heap.size + 1 + 1, 7, none⟩) (by simp) (.slice aks_3 ks.length cks_3)).setCell (p := ⟨w.heap.size + 1, 0, none⟩) (by simp) (.int .i64 k)).setCell (p := ⟨w.heap.size + 1, 1, none⟩) (by simp) (.int .i64 u)).setCell (p := ⟨w.heap.size + 1, 2, none⟩) (by simp) (.string n)).setCell (p := ⟨w.heap.size + 1, 3, none⟩) (by simp) (.int .i64 tk)).setCell (p := ⟨w.heap.size + 1, 4, none⟩) (by simp) (.string tn)).setCell (p := ⟨w.heap.size + 1, 5, none⟩) (by simp) (.slice atks_1 tks.length ctks_1)).setCell (p := ⟨w.heap.size + 1, 6, none⟩) (by simp) (.slice ans_2 ns.length cns_2)).setCell (p := ⟨w.heap.size + 1, 7, none⟩) (by simp) (.slice aks_3 ks.length cks_3))
    have hfin2 := ((((((((((((Keeps.refl (w.heap.size + 3) w2).setCell (p := ⟨w.heap.size + 1 + 1, 6, none⟩) (by simp) (.slice ans_2 ns.length cns_2)).below hb3).setCell (p := ⟨w.heap.size + 1 + 1, 7, none⟩) (by simp) (.slice aks_3 ks.length cks_3)).setCell (p := ⟨w.heap.size + 1, 0, none⟩) (by simp) (.int .i64 k)).setCell (p := ⟨w.heap.size + 1, 1, none⟩) (by simp) (.int .i64 u)).setCell (p := ⟨w.heap.size + 1, 2, none⟩) (by simp) (.string n)).setCell (p := ⟨w.heap.size + 1, 3, none⟩) (by simp) (.int .i64 tk)).setCell (p := ⟨w.heap.size + 1, 4, none⟩) (by simp) (.string tn)).setCell (p := ⟨w.heap.size + 1, 5, none⟩) (by simp) (.slice atks_1 tks.length ctks_1)).setCell (p := ⟨w.heap.size + 1, 6, none⟩) (by simp) (.slice ans_2 ns.length cns_2)).setCell (p := ⟨w.heap.size + 1, 7, none⟩) (by simp) (.slice aks_3 ks.length cks_3))
    have hfin3 := ((((((((((Keeps.refl (w.heap.size + 3) w3).setCell (p := ⟨w.heap.size + 1 + 1, 7, none⟩) (by simp) (.slice aks_3 ks.length cks_3)).setCell (p := ⟨w.heap.size + 1, 0, none⟩) (by simp) (.int .i64 k)).setCell (p := ⟨w.heap.size + 1, 1, none⟩) (by simp) (.int .i64 u)).setCell (p := ⟨w.heap.size + 1, 2, none⟩) (by simp) (.string n)).setCell (p := ⟨w.heap.size + 1, 3, none⟩) (by simp) (.int .i64 tk)).setCell (p := ⟨w.heap.size + 1, 4, none⟩) (by simp) (.string tn)).setCell (p := ⟨w.heap.size + 1, 5, none⟩) (by simp) (.slice atks_1 tks.length ctks_1)).setCell (p := ⟨w.heap.size + 1, 6, none⟩) (by simp) (.slice ans_2 ns.length cns_2)).setCell (p := ⟨w.heap.size + 1, 7, none⟩) (by simp) (.slice aks_3 ks.length cks_3))
    have hp := ((((PartAll.cons (HO1.out.part.keeps hfin (by first | exact Nat.le_refl _ | omega) (Nat.le_refl _)) (PartAll.cons (HO2.out.part.keeps hfin2 (by first | exact Nat.le_refl _ | omega) (Nat.le_refl _)) (PartAll.cons (HO3.out.part.keeps hfin3 (by first | exact Nat.le_refl _ | omega) (Nat.le_refl _)) (PartAll.nil _ w3.heap.size w3.heap.size) (Nat.le_refl _) (by omega) (by omega)) (Nat.le_refl _) (by omega) (by omega)) (Nat.le_refl _) (by omega) (by omega)).plain (Rd.str_mk zn)).plain (Rd.int_mk lou hiu)).plain (Rd.int_mk lok hik))
    exact OwnS.mono (base := w.heap.size + 3) hp.own (by omega)
  · exact (((((((((hbw3.setCell (by simp; try omega) _).setCell (by simp; try omega) _).setCell (by simp; try omega) _).setCell (by simp; try omega) _).setCell (by simp; try omega) _).setCell (by simp; try omega) _).setCell (by simp; try omega) _).setCell (by simp; try omega) _).setCell (by simp; try omega) _)

theorem infoTm : (Tryz.prog.info? 63).map (fun i => (i.zero, i.size, i.bytes)) = some (some (.agg #[.int .i64 0, .int .i64 0, .string ⟨#[]⟩, .int .i64 0, .string ⟨#[]⟩, .slice none 0 0, .slice none 0 0, .slice none 0 0]), 8, 128) := by kernel_rfl
theorem makeTm (n : Nat) (hn : n ≤ 1048576) : ∃ C : Array Value, C.size = n * 8 ∧ ∀ w : World, (Instr.makeSlice 61 (.int .i64 (n : Int)) (.int .i64 (n : Int))).run Tryz.prog w = .ok (.slice (some ⟨w.heap.size, 0, none⟩) n n) (w.alloc (.cells C 63)) := by
  obtain ⟨i, hi, hz, hs, hb⟩ := info_parts infoTm
  refine ⟨madeCells (Value.cells (.agg #[.int .i64 0, .int .i64 0, .string ⟨#[]⟩, .int .i64 0, .string ⟨#[]⟩, .slice none 0 0, .slice none 0 0, .slice none 0 0])) (n * 8), size_madeCells _ _, fun w => ?_⟩
  have := run_make (P := Tryz.prog) w 61 63 i _ Tryz.underlying61 hi hz .i64 .i64 n n (by omega) (Int.le_refl _) (by rw [hb]; omega) (by omega)
  simp only [Int.toNat_natCast, hs] at this
  exact this
theorem toTms_step (N : Nat) (ih : ToTm N) : ToTms (N + 1) := by
  intro ts a c w hN hM hr
  obtain ⟨_, _, e, h2, h3, h4⟩ := hr.eTm
  simp only [Value.slice.injEq, true_and] at e
  obtain ⟨rfl, rfl⟩ := e
  have hl := Tm.bulks_length ts
  obtain ⟨C, hC, hmk⟩ := makeTm ts.length (by omega)
  have HC := hid hC
  have H4 := hid h4
  have IH := hid ih
  clear hr h4 hC ih
  go_enter Tryz.func134, Tryz.ntmps134
  go_wp2_with fail
  clear hmk
  go_loopw [4] (fun i wr => ∃ (j : Nat), j ≤ ts.length ∧ i = .int .i64 j ∧ ∃ (cur : Array Value) (F : List Nat), wr.heap[w.heap.size]? = some (.cells cur 63 (0, 0)) ∧ Hid (cur.size = ts.length * 8) ∧ Hid (RdAll wr (Tm.ds (ts.take j)) (cur.toList.take (j * 8)) F) ∧ Owned wr (w.heap.size + 1) F ∧ Below w.heap.size w wr) (fun i _ => ts.length - (intOf i).toNat)
  case atStart => exact ⟨0, by omega, rfl, C, [], heap_alloc_new _ _, HC.out, by show RdAll _ _ _ _; simpa [Tm.ds] using RdAll.nil, Owned.nil _ _, (Below.refl _ _).alloc (Nat.le_refl _) _⟩
  case round =>
    obtain ⟨j, hj, rfl, cur, F, hcur, HS, HR, HO, hb⟩ := hrel
    by_cases hlt : j < ts.length
    · obtain ⟨b, o, rfl, hbl, hall⟩ := H4.out (by omega)
      obtain ⟨t, ht⟩ : ∃ t, ts[j]? = some t := ⟨_, List.getElem?_eq_getElem hlt⟩
      obtain ⟨k1, u1, n1, ⟨tk1, tn1, tks1⟩, ns1, ks1⟩ := t
      obtain ⟨atks1, ctks1, ans1, cns1, aks1, cks1, q0, q1, q2, q3, q4, q5, q6, q7, hrk⟩ := hall j k1 u1 n1 tk1 tn1 tks1 ns1 ks1 ht
      clear hall H4
      have d0 := (hb.cell (p := ⟨b, o + j * 8, none⟩) hbl).trans q0
      have d1 := (hb.cell (p := ⟨b, o + j * 8 + 1, none⟩) hbl).trans q1
      have d2 := (hb.cell (p := ⟨b, o + j * 8 + 2, none⟩) hbl).trans q2
      have d3 := (hb.cell (p := ⟨b, o + j * 8 + 3, none⟩) hbl).trans q3
      have d4 := (hb.cell (p := ⟨b, o + j * 8 + 4, none⟩) hbl).trans q4
      have d5 := (hb.cell (p := ⟨b, o + j * 8 + 5, none⟩) hbl).trans q5
      have d6 := (hb.cell (p := ⟨b, o + j * 8 + 6, none⟩) hbl).trans q6
      have d7 := (hb.cell (p := ⟨b, o + j * 8 + 7, none⟩) hbl).trans q7
      have HT := hid ht
      have hbg := Tm.bulk_get ts j _ ht
      have hfc := hrk.fTm
      have HFC := hid hfc
      have hc := IH.out k1 u1 n1 tk1 tn1 tks1 ns1 ks1 atks1 ctks1 ans1 cns1 aks1 cks1 wr (by omega) (by omega) (hrk.below hb)
      have HC := hid hc
      have HU := hid hcur
      clear ht hrk q0 q1 q2 q3 q4 q5 q6 q7 hc hcur hfc
      go_wp2_with fail
      refine HC.out.mono ?_
      clear HC
      rintro e w1 ⟨atks2, ctks2, ans2, cns2, aks2, cks2, rfl, hown, hb1⟩
      have hB : w.heap.size < wr.heap.size := (Array.getElem?_eq_some_iff.1 HU.out).1
      have hcur1 : w1.heap[w.heap.size]? = some (.cells cur 63 (0, 0)) := (hb1.block _ hB).trans HU.out
      have hsz : j * 8 + 7 < cur.size := by have := HS.out; omega
      have e0 : w1.cell? ⟨w.heap.size, j * 8, none⟩ = some (cur[j * 8]'(by omega)) := by simp [World.cell?, hcur1]
      have f0 : w1.frozen? ⟨w.heap.size, j * 8, none⟩ = false := by simp [World.frozen?, hcur1]
      have e1 : w1.cell? ⟨w.heap.size, j * 8 + 1, none⟩ = some (cur[j * 8 + 1]'(by omega)) := by simp [World.cell?, hcur1]
      have f1 : w1.frozen? ⟨w.heap.size, j * 8 + 1, none⟩ = false := by simp [World.frozen?, hcur1]
      have e2 : w1.cell? ⟨w.heap.size, j * 8 + 2, none⟩ = some (cur[j * 8 + 2]'(by omega)) := by simp [World.cell?, hcur1]
      have f2 : w1.frozen? ⟨w.heap.size, j * 8 + 2, none⟩ = false := by simp [World.frozen?, hcur1]
      have e3 : w1.cell? ⟨w.heap.size, j * 8 + 3, none⟩ = some (cur[j * 8 + 3]'(by omega)) := by simp [World.cell?, hcur1]
      have f3 : w1.frozen? ⟨w.heap.size, j * 8 + 3, none⟩ = false := by simp [World.frozen?, hcur1]
      have e4 : w1.cell? ⟨w.heap.size, j * 8 + 4, none⟩ = some (cur[j * 8 + 4]'(by omega)) := by simp [World.cell?, hcur1]
      have f4 : w1.frozen? ⟨w.heap.size, j * 8 + 4, none⟩ = false := by simp [World.frozen?, hcur1]
      have e5 : w1.cell? ⟨w.heap.size, j * 8 + 5, none⟩ = some (cur[j * 8 + 5]'(by omega)) := by simp [World.cell?, hcur1]
      have f5 : w1.frozen? ⟨w.heap.size, j * 8 + 5, none⟩ = false := by simp [World.frozen?, hcur1]
      have e6 : w1.cell? ⟨w.heap.size, j * 8 + 6, none⟩ = some (cur[j * 8 + 6]'(by omega)) := by simp [World.cell?, hcur1]
      have f6 : w1.frozen? ⟨w.heap.size, j * 8 + 6, none⟩ = false := by simp [World.frozen?, hcur1]
      have e7 : w1.cell? ⟨w.heap.size, j * 8 + 7, none⟩ = some (cur[j * 8 + 7]'(by omega)) := by simp [World.cell?, hcur1]
      have f7 : w1.frozen? ⟨w.heap.size, j * 8 + 7, none⟩ = false := by simp [World.frozen?, hcur1]
      have HCU := hid hcur1
      have HW := hid hown
      clear hcur1 hown
      go_wp2_with fail
      obtain ⟨F3, hr3, ho3⟩ := HW.out
      have hlo3 : ∀ y ∈ F3, wr.heap.size ≤ y := fun y hy => (ho3.2 y hy).1
      have hlo : ∀ x ∈ F, x < wr.heap.size := HO.lt
      obtain ⟨cur', H, g1, g2, g3, g4, g5⟩ := fill_step (m := 8) (base := w.heap.size + 1) HCU.out rfl (by have := HS.out; omega) (HR.out.below hb1) hr3 (HO.keep fun b hb => hb1.block b (hlo b hb)) (ho3.mono (by omega))
        (fun x hx => by have := (HO.2 x hx).1; omega) (fun x hx => by have := hlo3 x hx; omega) (fun x hx y hy => by have := hlo x hx; have := hlo3 y hy; omega)
      have hbw : Below w.heap.size w (setMany w1 w.heap.size (j * 8) [.int .i64 k1, .int .i64 u1, .string n1, .int .i64 tk1, .string tn1, .slice atks2 tks1.length ctks2, .slice ans2 ns1.length cns2, .slice aks2 ks1.length cks2]) := Below.setMany _ _ (hb.trans (hb1.mono hb.size)) (Nat.le_refl _)
      have htk : Tm.ds (ts.take (j + 1)) = Tm.ds (ts.take j) ++ [Tm.d (Tm.mk k1 u1 n1 (Ty.mk tk1 tn1 tks1) ns1 ks1)] := Tm.ds_snoc ts j _ HT.out
      go_roundw
      case rel => exact ⟨j + 1, by omega, by go_num, cur', H, g1, by show _ = _; rw [g2]; exact HS.out, by show RdAll _ _ _ _; rw [htk]; exact g3, g4, hbw⟩
      case measure => simp [intOf]; omega
    · obtain rfl : j = ts.length := by omega
      rw [List.take_length] at HR
      go_wp2_with fail
      go_ret
      obtain ⟨G, q1, q2⟩ := fill_done (m := 8) (base := w.heap.size) hcur HS.out (Tm.ds_length ts) (by omega) HR.out (HO.mono (by omega)) (Nat.le_refl _) (fun x hx => by have := (HO.2 x hx).1; omega)
      exact ⟨_, _, rfl, ⟨G, q1, q2⟩, hb⟩

theorem toTm_all : ∀ M, ToTm M ∧ ToTms M
  | 0 => ⟨fun _ _ _ _ _ _ _ _ _ _ _ _ _ _ _ h => absurd h (by omega), fun _ _ _ _ h => absurd h (by omega)⟩
  | M + 1 => by
    have h := toTm_all M
    have h2 := toTms_step M h.1
    exact ⟨toTm_step (M + 1) h2, h2⟩
theorem toTm (k : Int) (u : Int) (n : ByteArray) (tk : Int) (tn : ByteArray) (tks : List Ty) (ns : List ByteArray) (ks : List Tm) (atks : Option Addr) (ctks : Nat) (ans : Option Addr) (cns : Nat) (aks : Option Addr) (cks : Nat) (w : World) (hM : Tm.bulk (Tm.mk k u n (Ty.mk tk tn tks) ns ks) ≤ 1048576) (hr : RdS w (Tm.d (Tm.mk k u n (Ty.mk tk tn tks) ns ks)) [.int .i64 k, .int .i64 u, .string n, .int .i64 tk, .string tn, .slice atks tks.length ctks, .slice ans ns.length cns, .slice aks ks.length cks]) :
    Calls Tryz.prog 92 #[.agg #[.int .i64 k, .int .i64 u, .string n, .int .i64 tk, .string tn, .slice atks tks.length ctks, .slice ans ns.length cns, .slice aks ks.length cks]] w (GivesTm k u n tk tn tks ns ks w) :=
  (toTm_all (Tm.bulk (Tm.mk k u n (Ty.mk tk tn tks) ns ks) + 1)).1 k u n tk tn tks ns ks atks ctks ans cns aks cks w (by omega) hM hr
theorem toTms (ts : List Tm) (a : Option Addr) (c : Nat) (w : World) (hM : Tm.bulks ts ≤ 1048576) (hr : RdL w (Tm.ds ts) (.slice a ts.length c)) :
    Calls Tryz.prog 134 #[.slice a ts.length c] w (GivesTms ts w) :=
  (toTm_all (Tm.bulks ts + 1)).2 ts a c w (by omega) hM hr

end Go.Proofs.YtgpefnlpbjnjbaaGreat

namespace Go.Proofs.YtgpefnlpbjnjbaaGreat
open Go.ChangeShapes Go.WideShapes Go.ChangeAt Go.RowKit
open Go.Sort (grow)
set_option linter.unusedVariables false

/-- Handed back: the call's own copy. -/
def GivesDf (n : ByteArray) (tk : Int) (tn : ByteArray) (tks : List Ty) (bk : Int) (bu : Int) (bn : ByteArray) (btk : Int) (btn : ByteArray) (btks : List Ty) (bns : List ByteArray) (bks : List Tm) (w : World) (e : Ending) (w' : World) : Prop :=
  ∃ (atks : Option Addr) (ctks : Nat) (abtks : Option Addr) (cbtks : Nat) (abns : Option Addr) (cbns : Nat) (abks : Option Addr) (cbks : Nat), e = .returned (.agg #[.string n, .int .i64 tk, .string tn, .slice atks tks.length ctks, .int .i64 bk, .int .i64 bu, .string bn, .int .i64 btk, .string btn, .slice abtks btks.length cbtks, .slice abns bns.length cbns, .slice abks bks.length cbks]) ∧ OwnS w' w.heap.size (Df.d (Df.mk n (Ty.mk tk tn tks) (Tm.mk bk bu bn (Ty.mk btk btn btks) bns bks))) [.string n, .int .i64 tk, .string tn, .slice atks tks.length ctks, .int .i64 bk, .int .i64 bu, .string bn, .int .i64 btk, .string btn, .slice abtks btks.length cbtks, .slice abns bns.length cbns, .slice abks bks.length cbks] ∧ Below w.heap.size w w'
def GivesDfs (ts : List Df) (w : World) (e : Ending) (w' : World) : Prop :=
  ∃ (a : Option Addr) (c : Nat), e = .returned (.slice a ts.length c) ∧ OwnL w' w.heap.size (Df.ds ts) (.slice a ts.length c) ∧ Below w.heap.size w w'
abbrev ToDf : Prop := ∀ (n : ByteArray) (tk : Int) (tn : ByteArray) (tks : List Ty) (bk : Int) (bu : Int) (bn : ByteArray) (btk : Int) (btn : ByteArray) (btks : List Ty) (bns : List ByteArray) (bks : List Tm) (atks : Option Addr) (ctks : Nat) (abtks : Option Addr) (cbtks : Nat) (abns : Option Addr) (cbns : Nat) (abks : Option Addr) (cbks : Nat) (w : World), Df.bulk (Df.mk n (Ty.mk tk tn tks) (Tm.mk bk bu bn (Ty.mk btk btn btks) bns bks)) ≤ 1048576 → RdS w (Df.d (Df.mk n (Ty.mk tk tn tks) (Tm.mk bk bu bn (Ty.mk btk btn btks) bns bks))) [.string n, .int .i64 tk, .string tn, .slice atks tks.length ctks, .int .i64 bk, .int .i64 bu, .string bn, .int .i64 btk, .string btn, .slice abtks btks.length cbtks, .slice abns bns.length cbns, .slice abks bks.length cbks] →
  Calls Tryz.prog 51 #[.agg #[.string n, .int .i64 tk, .string tn, .slice atks tks.length ctks, .int .i64 bk, .int .i64 bu, .string bn, .int .i64 btk, .string btn, .slice abtks btks.length cbtks, .slice abns bns.length cbns, .slice abks bks.length cbks]] w (GivesDf n tk tn tks bk bu bn btk btn btks bns bks w)
theorem toDf : ToDf := by
  intro n tk tn tks bk bu bn btk btn btks bns bks atks ctks abtks cbtks abns cbns abks cbks w hM hr
  have hbk : Df.bulk (Df.mk n (Ty.mk tk tn tks) (Tm.mk bk bu bn (Ty.mk btk btn btks) bns bks)) = n.size + Ty.bulk (Ty.mk tk tn tks) + Tm.bulk (Tm.mk bk bu bn (Ty.mk btk btn btks) bns bks) := rfl
  obtain ⟨zn, ⟨⟨lotk, hitk⟩, ztn, htks⟩, ⟨⟨lobk, hibk⟩, ⟨lobu, hibu⟩, zbn, ⟨⟨lobtk, hibtk⟩, zbtn, hbtks⟩, hbns, hbks⟩⟩ := hr.fDf
  have hc1 := fun (W : World) (hb : Below w.heap.size w W) => toTy tk tn tks atks ctks W (by omega) ((RdS.subDf_t hr).below hb)
  have hc2 := fun (W : World) (hb : Below w.heap.size w W) => toTm bk bu bn btk btn btks bns bks abtks cbtks abns cbns abks cbks W (by omega) ((RdS.subDf_b hr).below hb)
  have HC1 := hid hc1
  have HC2 := hid hc2
  have hB0 : Below w.heap.size w (w.alloc (.cells #[.string n, .int .i64 tk, .string tn, .slice atks tks.length ctks, .int .i64 bk, .int .i64 bu, .string bn, .int .i64 btk, .string btn, .slice abtks btks.length cbtks, .slice abns bns.length cbns, .slice abks bks.length cbks] 85)) := (Below.refl _ _).alloc (Nat.le_refl _) _
  clear hr hbk hM hc1 hc2 hB0 htks hbtks hbns hbks
  go_enter Tryz.func51, Tryz.ntmps51
  go_wp2_with fail
  refine (HC1.out _ ((((Below.refl _ _).alloc (Nat.le_refl _) _).alloc (by simp) _).alloc (by simp; omega) _)).mono ?_
  rintro e w1 ⟨atks_1, ctks_1, rfl, ho1, hb1⟩
  obtain ⟨hcl1, hfz1⟩ := bcell hb1
  have hz1 : w.heap.size + 1 + 1 < w1.heap.size := by have := hb1.size; simp at this; omega
  have hy1 : w.heap.size + 1 < w1.heap.size := by omega
  have hx1 : w.heap.size < w1.heap.size := by omega
  have hbw1 : Below w.heap.size w w1 := ((((Below.refl _ _).alloc (Nat.le_refl _) _).alloc (by simp) _).alloc (by simp; omega) _).trans (hb1.mono (by simp; omega))
  have HO1 := hid (ho1.mono (base' := w.heap.size + 3) (by simp))
  have HT1 := hid (Nat.le_refl w1.heap.size)
  clear HC1 ho1
  have hbs1 := (((hbw1.setCell (p := ⟨w.heap.size + 1 + 1, 1, none⟩) (by simp; omega) (.int .i64 tk)).setCell (p := ⟨w.heap.size + 1 + 1, 2, none⟩) (by simp; omega) (.string tn)).setCell (p := ⟨w.heap.size + 1 + 1, 3, none⟩) (by simp; omega) (.slice atks_1 tks.length ctks_1))
  have HKS1 := hid ((((Keeps.refl (w.heap.size + 3) w1).setCell (p := ⟨w.heap.size + 1 + 1, 1, none⟩) (by simp) (.int .i64 tk)).setCell (p := ⟨w.heap.size + 1 + 1, 2, none⟩) (by simp) (.string tn)).setCell (p := ⟨w.heap.size + 1 + 1, 3, none⟩) (by simp) (.slice atks_1 tks.length ctks_1))
  go_wp2_with fail
  refine (HC2.out _ hbs1).mono ?_
  rintro e w2 ⟨abtks_2, cbtks_2, abns_2, cbns_2, abks_2, cbks_2, rfl, ho2, hb2⟩
  obtain ⟨hcl2, hfz2⟩ := bcell hb2
  have hz2 : w.heap.size + 1 + 1 < w2.heap.size := by have := hb2.size; simp at this; omega
  have hbw2 : Below w.heap.size w w2 := hbs1.trans (hb2.mono hbs1.size)
  have hsz2 : w1.heap.size ≤ w2.heap.size := by have := hb2.size; simpa using this
  have HK2 := hid (HKS1.out.below hb2)
  have HO2 := hid (ho2.mono (base' := w1.heap.size) (by simp))
  clear HC2 ho2 HKS1
  go_wp2_with fail
  refine bodyPost_ret (v := .agg #[.string n, .int .i64 tk, .string tn, .slice atks_1 tks.length ctks_1, .int .i64 bk, .int .i64 bu, .string bn, .int .i64 btk, .string btn, .slice abtks_2 btks.length cbtks_2, .slice abns_2 bns.length cbns_2, .slice abks_2 bks.length cbks_2]) (by simp [results, Tryz.results51, go_sem, hcl1, hcl2, hy1]) rfl ⟨atks_1, ctks_1, abtks_2, cbtks_2, abns_2, cbns_2, abks_2, cbks_2, rfl, ?_, ?_⟩
  · have hfin := ((((((((((((((((((((HK2.out.setCell (p := ⟨w.heap.size + 1 + 1, 4, none⟩) (by simp) (.int .i64 bk)).setCell (p := ⟨w.heap.size + 1 + 1, 5, none⟩) (by simp) (.int .i64 bu)).setCell (p := ⟨w.heap.size + 1 + 1, 6, none⟩) (by simp) (.string bn)).setCell (p := ⟨w.heap.size + 1 + 1, 7, none⟩) (by simp) (.int .i64 btk)).setCell (p := ⟨w.heap.size + 1 + 1, 8, none⟩) (by simp) (.string btn)).setCell (p := ⟨w.heap.size + 1 + 1, 9, none⟩) (by simp) (.slice abtks_2 btks.length cbtks_2)).setCell (p := ⟨w.heap.size + 1 + 1, 10, none⟩) (by simp) (.slice abns_2 bns.length cbns_2)).setCell (p := ⟨w.heap.size + 1 + 1, 11, none⟩) (by simp) (.slice abks_2 bks.length cbks_2)).setCell (p := ⟨w.heap.size + 1, 0, none⟩) (by simp) (.string n)).setCell (p := ⟨w.heap.size + 1, 1, none⟩) (by simp) (.int .i64 tk)).setCell (p := ⟨w.heap.size + 1, 2, none⟩) (by simp) (.string tn)).setCell (p := ⟨w.heap.size + 1, 3, none⟩) (by simp) (.slice atks_1 tks.length ctks_1)).setCell (p := ⟨w.heap.size + 1, 4, none⟩) (by simp) (.int .i64 bk)).setCell (p := ⟨w.heap.size + 1, 5, none⟩) (by simp) (.int .i64 bu)).setCell (p := ⟨w.heap.size + 1, 6, none⟩) (by simp) (.string bn)).setCell (p := ⟨w.heap.size + 1, 7, none⟩) (by simp) (.int .i64 btk)).setCell (p := ⟨w.heap.size + 1, 8, none⟩) (by simp) (.string btn)).setCell (p := ⟨w.heap.size + 1, 9, none⟩) (by simp) (.slice abtks_2 btks.length cbtks_2)).setCell (p := ⟨w.heap.size + 1, 10, none⟩) (by simp) (.slice abns_2 bns.length cbns_2)).setCell (p := ⟨w.heap.size + 1, 11, none⟩) (by simp) (.slice abks_2 bks.length cbks_2))
    have hfin2 := (((((((((((((((((((((Keeps.refl (w.heap.size + 3) w2).setCell (p := ⟨w.heap.size + 1 + 1, 4, none⟩) (by simp) (.int .i64 bk)).setCell (p := ⟨w.heap.size + 1 + 1, 5, none⟩) (by simp) (.int .i64 bu)).setCell (p := ⟨w.heap.size + 1 + 1, 6, none⟩) (by simp) (.string bn)).setCell (p := ⟨w.heap.size + 1 + 1, 7, none⟩) (by simp) (.int .i64 btk)).setCell (p := ⟨w.heap.size + 1 + 1, 8, none⟩) (by simp) (.string btn)).setCell (p := ⟨w.heap.size + 1 + 1, 9, none⟩) (by simp) (.slice abtks_2 btks.length cbtks_2)).setCell (p := ⟨w.heap.size + 1 + 1, 10, none⟩) (by simp) (.slice abns_2 bns.length cbns_2)).setCell (p := ⟨w.heap.size + 1 + 1, 11, none⟩) (by simp) (.slice abks_2 bks.length cbks_2)).setCell (p := ⟨w.heap.size + 1, 0, none⟩) (by simp) (.string n)).setCell (p := ⟨w.heap.size + 1, 1, none⟩) (by simp) (.int .i64 tk)).setCell (p := ⟨w.heap.size + 1, 2, none⟩) (by simp) (.string tn)).setCell (p := ⟨w.heap.size + 1, 3, none⟩) (by simp) (.slice atks_1 tks.length ctks_1)).setCell (p := ⟨w.heap.size + 1, 4, none⟩) (by simp) (.int .i64 bk)).setCell (p := ⟨w.heap.size + 1, 5, none⟩) (by simp) (.int .i64 bu)).setCell (p := ⟨w.heap.size + 1, 6, none⟩) (by simp) (.string bn)).setCell (p := ⟨w.heap.size + 1, 7, none⟩) (by simp) (.int .i64 btk)).setCell (p := ⟨w.heap.size + 1, 8, none⟩) (by simp) (.string btn)).setCell (p := ⟨w.heap.size + 1, 9, none⟩) (by simp) (.slice abtks_2 btks.length cbtks_2)).setCell (p := ⟨w.heap.size + 1, 10, none⟩) (by simp) (.slice abns_2 bns.length cbns_2)).setCell (p := ⟨w.heap.size + 1, 11, none⟩) (by simp) (.slice abks_2 bks.length cbks_2))
    have hp := ((PartAll.cons (HO1.out.part.keeps hfin (by first | exact Nat.le_refl _ | omega) (Nat.le_refl _)) (PartAll.cons (HO2.out.part.keeps hfin2 (by first | exact Nat.le_refl _ | omega) (Nat.le_refl _)) (PartAll.nil _ w2.heap.size w2.heap.size) (Nat.le_refl _) (by omega) (by omega)) (Nat.le_refl _) (by omega) (by omega)).plain (Rd.str_mk zn))
    exact OwnS.mono (base := w.heap.size + 3) hp.own (by omega)
  · exact ((((((((((((((((((((hbw2.setCell (by simp; try omega) _).setCell (by simp; try omega) _).setCell (by simp; try omega) _).setCell (by simp; try omega) _).setCell (by simp; try omega) _).setCell (by simp; try omega) _).setCell (by simp; try omega) _).setCell (by simp; try omega) _).setCell (by simp; try omega) _).setCell (by simp; try omega) _).setCell (by simp; try omega) _).setCell (by simp; try omega) _).setCell (by simp; try omega) _).setCell (by simp; try omega) _).setCell (by simp; try omega) _).setCell (by simp; try omega) _).setCell (by simp; try omega) _).setCell (by simp; try omega) _).setCell (by simp; try omega) _).setCell (by simp; try omega) _)

theorem infoDf : (Tryz.prog.info? 65).map (fun i => (i.zero, i.size, i.bytes)) = some (some (.agg #[.string ⟨#[]⟩, .int .i64 0, .string ⟨#[]⟩, .slice none 0 0, .int .i64 0, .int .i64 0, .string ⟨#[]⟩, .int .i64 0, .string ⟨#[]⟩, .slice none 0 0, .slice none 0 0, .slice none 0 0]), 12, 192) := by kernel_rfl
theorem makeDf (n : Nat) (hn : n ≤ 1048576) : ∃ C : Array Value, C.size = n * 12 ∧ ∀ w : World, (Instr.makeSlice 30 (.int .i64 (n : Int)) (.int .i64 (n : Int))).run Tryz.prog w = .ok (.slice (some ⟨w.heap.size, 0, none⟩) n n) (w.alloc (.cells C 65)) := by
  obtain ⟨i, hi, hz, hs, hb⟩ := info_parts infoDf
  refine ⟨madeCells (Value.cells (.agg #[.string ⟨#[]⟩, .int .i64 0, .string ⟨#[]⟩, .slice none 0 0, .int .i64 0, .int .i64 0, .string ⟨#[]⟩, .int .i64 0, .string ⟨#[]⟩, .slice none 0 0, .slice none 0 0, .slice none 0 0])) (n * 12), size_madeCells _ _, fun w => ?_⟩
  have := run_make (P := Tryz.prog) w 30 65 i _ Tryz.underlying30 hi hz .i64 .i64 n n (by omega) (Int.le_refl _) (by rw [hb]; omega) (by omega)
  simp only [Int.toNat_natCast, hs] at this
  exact this
theorem toDfs (ts : List Df) (a : Option Addr) (c : Nat) (w : World) (hM : Df.bulks ts ≤ 1048576) (hr : RdL w (Df.ds ts) (.slice a ts.length c)) :
    Calls Tryz.prog 25 #[.slice a ts.length c] w (GivesDfs ts w) := by
  obtain ⟨_, _, e, h2, h3, h4⟩ := hr.eDf
  simp only [Value.slice.injEq, true_and] at e
  obtain ⟨rfl, rfl⟩ := e
  have hl := Df.bulks_length ts
  obtain ⟨C, hC, hmk⟩ := makeDf ts.length (by omega)
  have HC := hid hC
  have H4 := hid h4
  clear hr h4 hC
  go_enter Tryz.func25, Tryz.ntmps25
  go_wp2_with fail
  clear hmk
  go_loopw [4] (fun i wr => ∃ (j : Nat), j ≤ ts.length ∧ i = .int .i64 j ∧ ∃ (cur : Array Value) (F : List Nat), wr.heap[w.heap.size]? = some (.cells cur 65 (0, 0)) ∧ Hid (cur.size = ts.length * 12) ∧ Hid (RdAll wr (Df.ds (ts.take j)) (cur.toList.take (j * 12)) F) ∧ Owned wr (w.heap.size + 1) F ∧ Below w.heap.size w wr) (fun i _ => ts.length - (intOf i).toNat)
  case atStart => exact ⟨0, by omega, rfl, C, [], heap_alloc_new _ _, HC.out, by show RdAll _ _ _ _; simpa [Df.ds] using RdAll.nil, Owned.nil _ _, (Below.refl _ _).alloc (Nat.le_refl _) _⟩
  case round =>
    obtain ⟨j, hj, rfl, cur, F, hcur, HS, HR, HO, hb⟩ := hrel
    by_cases hlt : j < ts.length
    · obtain ⟨b, o, rfl, hbl, hall⟩ := H4.out (by omega)
      obtain ⟨t, ht⟩ : ∃ t, ts[j]? = some t := ⟨_, List.getElem?_eq_getElem hlt⟩
      obtain ⟨n1, ⟨tk1, tn1, tks1⟩, ⟨bk1, bu1, bn1, ⟨btk1, btn1, btks1⟩, bns1, bks1⟩⟩ := t
      obtain ⟨atks1, ctks1, abtks1, cbtks1, abns1, cbns1, abks1, cbks1, q0, q1, q2, q3, q4, q5, q6, q7, q8, q9, q10, q11, hrk⟩ := hall j n1 tk1 tn1 tks1 bk1 bu1 bn1 btk1 btn1 btks1 bns1 bks1 ht
      clear hall H4
      have d0 := (hb.cell (p := ⟨b, o + j * 12, none⟩) hbl).trans q0
      have d1 := (hb.cell (p := ⟨b, o + j * 12 + 1, none⟩) hbl).trans q1
      have d2 := (hb.cell (p := ⟨b, o + j * 12 + 2, none⟩) hbl).trans q2
      have d3 := (hb.cell (p := ⟨b, o + j * 12 + 3, none⟩) hbl).trans q3
      have d4 := (hb.cell (p := ⟨b, o + j * 12 + 4, none⟩) hbl).trans q4
      have d5 := (hb.cell (p := ⟨b, o + j * 12 + 5, none⟩) hbl).trans q5
      have d6 := (hb.cell (p := ⟨b, o + j * 12 + 6, none⟩) hbl).trans q6
      have d7 := (hb.cell (p := ⟨b, o + j * 12 + 7, none⟩) hbl).trans q7
      have d8 := (hb.cell (p := ⟨b, o + j * 12 + 8, none⟩) hbl).trans q8
      have d9 := (hb.cell (p := ⟨b, o + j * 12 + 9, none⟩) hbl).trans q9
      have d10 := (hb.cell (p := ⟨b, o + j * 12 + 10, none⟩) hbl).trans q10
      have d11 := (hb.cell (p := ⟨b, o + j * 12 + 11, none⟩) hbl).trans q11
      have HT := hid ht
      have hbg := Df.bulk_get ts j _ ht
      have hfc := hrk.fDf
      have HFC := hid hfc
      have hc := toDf n1 tk1 tn1 tks1 bk1 bu1 bn1 btk1 btn1 btks1 bns1 bks1 atks1 ctks1 abtks1 cbtks1 abns1 cbns1 abks1 cbks1 wr (by omega) (hrk.below hb)
      have HC := hid hc
      have HU := hid hcur
      clear ht hrk q0 q1 q2 q3 q4 q5 q6 q7 q8 q9 q10 q11 hc hcur hfc
      go_wp2_with fail
      refine HC.out.mono ?_
      clear HC
      rintro e w1 ⟨atks2, ctks2, abtks2, cbtks2, abns2, cbns2, abks2, cbks2, rfl, hown, hb1⟩
      have hB : w.heap.size < wr.heap.size := (Array.getElem?_eq_some_iff.1 HU.out).1
      have hcur1 : w1.heap[w.heap.size]? = some (.cells cur 65 (0, 0)) := (hb1.block _ hB).trans HU.out
      have hsz : j * 12 + 11 < cur.size := by have := HS.out; omega
      have e0 : w1.cell? ⟨w.heap.size, j * 12, none⟩ = some (cur[j * 12]'(by omega)) := by simp [World.cell?, hcur1]
      have f0 : w1.frozen? ⟨w.heap.size, j * 12, none⟩ = false := by simp [World.frozen?, hcur1]
      have e1 : w1.cell? ⟨w.heap.size, j * 12 + 1, none⟩ = some (cur[j * 12 + 1]'(by omega)) := by simp [World.cell?, hcur1]
      have f1 : w1.frozen? ⟨w.heap.size, j * 12 + 1, none⟩ = false := by simp [World.frozen?, hcur1]
      have e2 : w1.cell? ⟨w.heap.size, j * 12 + 2, none⟩ = some (cur[j * 12 + 2]'(by omega)) := by simp [World.cell?, hcur1]
      have f2 : w1.frozen? ⟨w.heap.size, j * 12 + 2, none⟩ = false := by simp [World.frozen?, hcur1]
      have e3 : w1.cell? ⟨w.heap.size, j * 12 + 3, none⟩ = some (cur[j * 12 + 3]'(by omega)) := by simp [World.cell?, hcur1]
      have f3 : w1.frozen? ⟨w.heap.size, j * 12 + 3, none⟩ = false := by simp [World.frozen?, hcur1]
      have e4 : w1.cell? ⟨w.heap.size, j * 12 + 4, none⟩ = some (cur[j * 12 + 4]'(by omega)) := by simp [World.cell?, hcur1]
      have f4 : w1.frozen? ⟨w.heap.size, j * 12 + 4, none⟩ = false := by simp [World.frozen?, hcur1]
      have e5 : w1.cell? ⟨w.heap.size, j * 12 + 5, none⟩ = some (cur[j * 12 + 5]'(by omega)) := by simp [World.cell?, hcur1]
      have f5 : w1.frozen? ⟨w.heap.size, j * 12 + 5, none⟩ = false := by simp [World.frozen?, hcur1]
      have e6 : w1.cell? ⟨w.heap.size, j * 12 + 6, none⟩ = some (cur[j * 12 + 6]'(by omega)) := by simp [World.cell?, hcur1]
      have f6 : w1.frozen? ⟨w.heap.size, j * 12 + 6, none⟩ = false := by simp [World.frozen?, hcur1]
      have e7 : w1.cell? ⟨w.heap.size, j * 12 + 7, none⟩ = some (cur[j * 12 + 7]'(by omega)) := by simp [World.cell?, hcur1]
      have f7 : w1.frozen? ⟨w.heap.size, j * 12 + 7, none⟩ = false := by simp [World.frozen?, hcur1]
      have e8 : w1.cell? ⟨w.heap.size, j * 12 + 8, none⟩ = some (cur[j * 12 + 8]'(by omega)) := by simp [World.cell?, hcur1]
      have f8 : w1.frozen? ⟨w.heap.size, j * 12 + 8, none⟩ = false := by simp [World.frozen?, hcur1]
      have e9 : w1.cell? ⟨w.heap.size, j * 12 + 9, none⟩ = some (cur[j * 12 + 9]'(by omega)) := by simp [World.cell?, hcur1]
      have f9 : w1.frozen? ⟨w.heap.size, j * 12 + 9, none⟩ = false := by simp [World.frozen?, hcur1]
      have e10 : w1.cell? ⟨w.heap.size, j * 12 + 10, none⟩ = some (cur[j * 12 + 10]'(by omega)) := by simp [World.cell?, hcur1]
      have f10 : w1.frozen? ⟨w.heap.size, j * 12 + 10, none⟩ = false := by simp [World.frozen?, hcur1]
      have e11 : w1.cell? ⟨w.heap.size, j * 12 + 11, none⟩ = some (cur[j * 12 + 11]'(by omega)) := by simp [World.cell?, hcur1]
      have f11 : w1.frozen? ⟨w.heap.size, j * 12 + 11, none⟩ = false := by simp [World.frozen?, hcur1]
      have HCU := hid hcur1
      have HW := hid hown
      clear hcur1 hown
      go_wp2_with fail
      obtain ⟨F3, hr3, ho3⟩ := HW.out
      have hlo3 : ∀ y ∈ F3, wr.heap.size ≤ y := fun y hy => (ho3.2 y hy).1
      have hlo : ∀ x ∈ F, x < wr.heap.size := HO.lt
      obtain ⟨cur', H, g1, g2, g3, g4, g5⟩ := fill_step (m := 12) (base := w.heap.size + 1) HCU.out rfl (by have := HS.out; omega) (HR.out.below hb1) hr3 (HO.keep fun b hb => hb1.block b (hlo b hb)) (ho3.mono (by omega))
        (fun x hx => by have := (HO.2 x hx).1; omega) (fun x hx => by have := hlo3 x hx; omega) (fun x hx y hy => by have := hlo x hx; have := hlo3 y hy; omega)
      have hbw : Below w.heap.size w (setMany w1 w.heap.size (j * 12) [.string n1, .int .i64 tk1, .string tn1, .slice atks2 tks1.length ctks2, .int .i64 bk1, .int .i64 bu1, .string bn1, .int .i64 btk1, .string btn1, .slice abtks2 btks1.length cbtks2, .slice abns2 bns1.length cbns2, .slice abks2 bks1.length cbks2]) := Below.setMany _ _ (hb.trans (hb1.mono hb.size)) (Nat.le_refl _)
      have htk : Df.ds (ts.take (j + 1)) = Df.ds (ts.take j) ++ [Df.d (Df.mk n1 (Ty.mk tk1 tn1 tks1) (Tm.mk bk1 bu1 bn1 (Ty.mk btk1 btn1 btks1) bns1 bks1))] := Df.ds_snoc ts j _ HT.out
      go_roundw
      case rel => exact ⟨j + 1, by omega, by go_num, cur', H, g1, by show _ = _; rw [g2]; exact HS.out, by show RdAll _ _ _ _; rw [htk]; exact g3, g4, hbw⟩
      case measure => simp [intOf]; omega
    · obtain rfl : j = ts.length := by omega
      rw [List.take_length] at HR
      go_wp2_with fail
      go_ret
      obtain ⟨G, q1, q2⟩ := fill_done (m := 12) (base := w.heap.size) hcur HS.out (Df.ds_length ts) (by omega) HR.out (HO.mono (by omega)) (Nat.le_refl _) (fun x hx => by have := (HO.2 x hx).1; omega)
      exact ⟨_, _, rfl, ⟨G, q1, q2⟩, hb⟩

end Go.Proofs.YtgpefnlpbjnjbaaGreat

namespace Go.Proofs.YtgpefnlpbjnjbaaGreat
open Go.ChangeShapes Go.WideShapes Go.ChangeAt Go.RowKit
open Go.Sort (grow)
set_option linter.unusedVariables false

/-- Handed back: the call's own copy. -/
def GivesPg (ds : List Dat) (fs : List Df) (w : World) (e : Ending) (w' : World) : Prop :=
  ∃ (ads : Option Addr) (cds : Nat) (afs : Option Addr) (cfs : Nat), e = .returned (.agg #[.slice ads ds.length cds, .slice afs fs.length cfs]) ∧ OwnS w' w.heap.size (Pg.d (Pg.mk ds fs)) [.slice ads ds.length cds, .slice afs fs.length cfs] ∧ Below w.heap.size w w'
def GivesPgs (ts : List Pg) (w : World) (e : Ending) (w' : World) : Prop :=
  ∃ (a : Option Addr) (c : Nat), e = .returned (.slice a ts.length c) ∧ OwnL w' w.heap.size (Pg.ds ts) (.slice a ts.length c) ∧ Below w.heap.size w w'
abbrev ToPg : Prop := ∀ (ds : List Dat) (fs : List Df) (ads : Option Addr) (cds : Nat) (afs : Option Addr) (cfs : Nat) (w : World), Pg.bulk (Pg.mk ds fs) ≤ 1048576 → RdS w (Pg.d (Pg.mk ds fs)) [.slice ads ds.length cds, .slice afs fs.length cfs] →
  Calls Tryz.prog 8 #[.agg #[.slice ads ds.length cds, .slice afs fs.length cfs]] w (GivesPg ds fs w)
theorem toPg : ToPg := by
  intro ds fs ads cds afs cfs w hM hr
  have hbk : Pg.bulk (Pg.mk ds fs) = Dat.bulks ds + Df.bulks fs := rfl
  obtain ⟨hds, hfs⟩ := hr.fPg
  have hc1 := fun (W : World) (hb : Below w.heap.size w W) => toDats ds ads cds W (by omega) (hds.below hb)
  have hc2 := fun (W : World) (hb : Below w.heap.size w W) => toDfs fs afs cfs W (by omega) (hfs.below hb)
  have HC1 := hid hc1
  have HC2 := hid hc2
  have hB0 : Below w.heap.size w (w.alloc (.cells #[.slice ads ds.length cds, .slice afs fs.length cfs] 25)) := (Below.refl _ _).alloc (Nat.le_refl _) _
  clear hr hbk hM hc1 hc2 hB0 hds hfs
  go_enter Tryz.func8, Tryz.ntmps8
  go_wp2_with fail
  refine (HC1.out _ ((((Below.refl _ _).alloc (Nat.le_refl _) _).alloc (by simp) _).alloc (by simp; omega) _)).mono ?_
  rintro e w1 ⟨ads_1, cds_1, rfl, ho1, hb1⟩
  obtain ⟨hcl1, hfz1⟩ := bcell hb1
  have hz1 : w.heap.size + 1 + 1 < w1.heap.size := by have := hb1.size; simp at this; omega
  have hy1 : w.heap.size + 1 < w1.heap.size := by omega
  have hx1 : w.heap.size < w1.heap.size := by omega
  have hbw1 : Below w.heap.size w w1 := ((((Below.refl _ _).alloc (Nat.le_refl _) _).alloc (by simp) _).alloc (by simp; omega) _).trans (hb1.mono (by simp; omega))
  have HO1 := hid (ho1.mono (base' := w.heap.size + 3) (by simp))
  have HT1 := hid (Nat.le_refl w1.heap.size)
  clear HC1 ho1
  have hbs1 := (hbw1.setCell (p := ⟨w.heap.size + 1 + 1, 0, none⟩) (by simp; omega) (.slice ads_1 ds.length cds_1))
  have HKS1 := hid ((Keeps.refl (w.heap.size + 3) w1).setCell (p := ⟨w.heap.size + 1 + 1, 0, none⟩) (by simp) (.slice ads_1 ds.length cds_1))
  go_wp2_with fail
  refine (HC2.out _ hbs1).mono ?_
  rintro e w2 ⟨afs_2, cfs_2, rfl, ho2, hb2⟩
  obtain ⟨hcl2, hfz2⟩ := bcell hb2
  have hz2 : w.heap.size + 1 + 1 < w2.heap.size := by have := hb2.size; simp at this; omega
  have hbw2 : Below w.heap.size w w2 := hbs1.trans (hb2.mono hbs1.size)
  have hsz2 : w1.heap.size ≤ w2.heap.size := by have := hb2.size; simpa using this
  have HK2 := hid (HKS1.out.below hb2)
  have HO2 := hid (ho2.mono (base' := w1.heap.size) (by simp))
  clear HC2 ho2 HKS1
  go_wp2_with fail
  refine bodyPost_ret (v := .agg #[.slice ads_1 ds.length cds_1, .slice afs_2 fs.length cfs_2]) (by simp [results, Tryz.results8, go_sem, hcl1, hcl2, hy1]) rfl ⟨ads_1, cds_1, afs_2, cfs_2, rfl, ?_, ?_⟩
  · have hfin := (((HK2.out.setCell (p := ⟨w.heap.size + 1 + 1, 1, none⟩) (by simp) (.slice afs_2 fs.length cfs_2)).setCell (p := ⟨w.heap.size + 1, 0, none⟩) (by simp) (.slice ads_1 ds.length cds_1)).setCell (p := ⟨w.heap.size + 1, 1, none⟩) (by simp) (.slice afs_2 fs.length cfs_2))
    have hfin2 := ((((Keeps.refl (w.heap.size + 3) w2).setCell (p := ⟨w.heap.size + 1 + 1, 1, none⟩) (by simp) (.slice afs_2 fs.length cfs_2)).setCell (p := ⟨w.heap.size + 1, 0, none⟩) (by simp) (.slice ads_1 ds.length cds_1)).setCell (p := ⟨w.heap.size + 1, 1, none⟩) (by simp) (.slice afs_2 fs.length cfs_2))
    have hp := (PartAll.cons (HO1.out.part.keeps hfin (by first | exact Nat.le_refl _ | omega) (Nat.le_refl _)) (PartAll.cons (HO2.out.part.keeps hfin2 (by first | exact Nat.le_refl _ | omega) (Nat.le_refl _)) (PartAll.nil _ w2.heap.size w2.heap.size) (Nat.le_refl _) (by omega) (by omega)) (Nat.le_refl _) (by omega) (by omega))
    exact OwnS.mono (base := w.heap.size + 3) hp.own (by omega)
  · exact (((hbw2.setCell (by simp; try omega) _).setCell (by simp; try omega) _).setCell (by simp; try omega) _)

theorem infoPg : (Tryz.prog.info? 32).map (fun i => (i.zero, i.size, i.bytes)) = some (some (.agg #[.slice none 0 0, .slice none 0 0]), 2, 48) := by kernel_rfl
end Go.Proofs.YtgpefnlpbjnjbaaGreat

namespace Go.Proofs.YtgpefnlpbjnjbaaGreat
open Go.ChangeShapes Go.WideShapes Go.ChangeAt Go.RowKit
open Go.Sort (grow)
set_option linter.unusedVariables false

theorem eqIns (ts : List Int) (a a' : Option Addr) (c c' : Nat) (w : World) (hr : RdL w (In.ds ts) (.slice a ts.length c)) (hr' : RdL w (In.ds ts) (.slice a' ts.length c')) :
    Calls Tryz.prog 10 #[.slice a ts.length c, .slice a' ts.length c'] w fun e w' => e = .returned (.bool true) ∧ Below w.heap.size w w' := by
  obtain ⟨_, _, e, h2, h3, h4⟩ := hr.eIn
  simp only [Value.slice.injEq, true_and] at e
  obtain ⟨rfl, rfl⟩ := e
  obtain ⟨_, _, e, h2', h3', h4'⟩ := hr'.eIn
  simp only [Value.slice.injEq, true_and] at e
  obtain ⟨rfl, rfl⟩ := e
  have H4 := hid h4
  have H4' := hid h4'
  clear hr h4 hr' h4'
  go_enter Tryz.func10, Tryz.ntmps10
  go_wp2_with fail
  go_loopw [5] (fun i wr => ∃ (j : Nat), j ≤ ts.length ∧ i = .int .i64 j ∧ Below w.heap.size w wr) (fun i _ => ts.length - (intOf i).toNat)
  case atStart => exact ⟨0, by omega, rfl, Below.refl _ _⟩
  case round =>
    obtain ⟨j, hj, rfl, hb⟩ := hrel
    by_cases hlt : j < ts.length
    · obtain ⟨b, o, rfl, hbl, hall⟩ := H4.out (by omega)
      obtain ⟨b', o', rfl, hbl', hall'⟩ := H4'.out (by omega)
      obtain ⟨t, ht⟩ : ∃ t, ts[j]? = some t := ⟨_, List.getElem?_eq_getElem hlt⟩
      obtain ⟨q0, hfc⟩ := hall j t ht
      obtain ⟨p0, -⟩ := hall' j t ht
      clear hall H4 hall' H4' ht
      have d0 := cell_regrown ((hb.cell (p := ⟨b, o + j, none⟩) hbl).trans q0)
      have d1 := cell_regrown ((hb.cell (p := ⟨b', o' + j, none⟩) hbl').trans p0)
      clear q0 p0
      go_wp2_with fail
      refine wp_region_quiet_below (by kernel_rfl) (by kernel_rfl) ?_
      repeat (quiet_step (fail))
      refine wpQuiet_nil ?_
      intro _ hw'
      obtain ⟨⟨dq, osq⟩, hw''⟩ := hw'
      subst hw''
      have hbq := hb.trans ((below_regrown wr dq osq).mono hb.size)
      clear d0 d1
      go_wp2_with fail
      go_roundw
      case rel => exact ⟨j + 1, by omega, by go_num, hbq⟩
      case measure => simp [intOf]; omega
    · go_wp2_with fail
      go_ret
      exact ⟨rfl, hb⟩

theorem eqSrs (ts : List ByteArray) (a a' : Option Addr) (c c' : Nat) (w : World) (hr : RdL w (Sr.ds ts) (.slice a ts.length c)) (hr' : RdL w (Sr.ds ts) (.slice a' ts.length c')) :
    Calls Tryz.prog 140 #[.slice a ts.length c, .slice a' ts.length c'] w fun e w' => e = .returned (.bool true) ∧ Below w.heap.size w w' := by
  obtain ⟨_, _, e, h2, h3, h4⟩ := hr.eSr
  simp only [Value.slice.injEq, true_and] at e
  obtain ⟨rfl, rfl⟩ := e
  obtain ⟨_, _, e, h2', h3', h4'⟩ := hr'.eSr
  simp only [Value.slice.injEq, true_and] at e
  obtain ⟨rfl, rfl⟩ := e
  have H4 := hid h4
  have H4' := hid h4'
  clear hr h4 hr' h4'
  go_enter Tryz.func140, Tryz.ntmps140
  go_wp2_with fail
  go_loopw [5] (fun i wr => ∃ (j : Nat), j ≤ ts.length ∧ i = .int .i64 j ∧ Below w.heap.size w wr) (fun i _ => ts.length - (intOf i).toNat)
  case atStart => exact ⟨0, by omega, rfl, Below.refl _ _⟩
  case round =>
    obtain ⟨j, hj, rfl, hb⟩ := hrel
    by_cases hlt : j < ts.length
    · obtain ⟨b, o, rfl, hbl, hall⟩ := H4.out (by omega)
      obtain ⟨b', o', rfl, hbl', hall'⟩ := H4'.out (by omega)
      obtain ⟨t, ht⟩ : ∃ t, ts[j]? = some t := ⟨_, List.getElem?_eq_getElem hlt⟩
      obtain ⟨q0, hfc⟩ := hall j t ht
      obtain ⟨p0, -⟩ := hall' j t ht
      clear hall H4 hall' H4' ht
      have d0 := cell_regrown ((hb.cell (p := ⟨b, o + j, none⟩) hbl).trans q0)
      have d1 := cell_regrown ((hb.cell (p := ⟨b', o' + j, none⟩) hbl').trans p0)
      clear q0 p0
      go_wp2_with fail
      refine wp_region_quiet_below (by kernel_rfl) (by kernel_rfl) ?_
      repeat (quiet_step (fail))
      refine wpQuiet_nil ?_
      intro _ hw'
      obtain ⟨⟨dq, osq⟩, hw''⟩ := hw'
      subst hw''
      have hbq := hb.trans ((below_regrown wr dq osq).mono hb.size)
      clear d0 d1
      go_wp2_with fail
      go_roundw
      case rel => exact ⟨j + 1, by omega, by go_num, hbq⟩
      case measure => simp [intOf]; omega
    · go_wp2_with fail
      go_ret
      exact ⟨rfl, hb⟩

end Go.Proofs.YtgpefnlpbjnjbaaGreat

namespace Go.Proofs.YtgpefnlpbjnjbaaGreat
open Go.ChangeShapes Go.WideShapes Go.ChangeAt Go.RowKit
open Go.Sort (grow)
set_option linter.unusedVariables false

def EqTy (N : Nat) : Prop := ∀ (k : Int) (n : ByteArray) (ks : List Ty) (aks : Option Addr) (cks : Nat) (aks' : Option Addr) (cks' : Nat) (w : World), Ty.bulk (Ty.mk k n ks) < N → RdS w (Ty.d (Ty.mk k n ks)) [.int .i64 k, .string n, .slice aks ks.length cks] → RdS w (Ty.d (Ty.mk k n ks)) [.int .i64 k, .string n, .slice aks' ks.length cks'] →
  Calls Tryz.prog 96 #[.agg #[.int .i64 k, .string n, .slice aks ks.length cks], .agg #[.int .i64 k, .string n, .slice aks' ks.length cks']] w fun e w' => e = .returned (.bool true) ∧ Below w.heap.size w w'
def EqTys (N : Nat) : Prop := ∀ (ts : List Ty) (a a' : Option Addr) (c c' : Nat) (w : World), Ty.bulks ts < N → RdL w (Ty.ds ts) (.slice a ts.length c) → RdL w (Ty.ds ts) (.slice a' ts.length c') →
  Calls Tryz.prog 139 #[.slice a ts.length c, .slice a' ts.length c'] w fun e w' => e = .returned (.bool true) ∧ Below w.heap.size w w'
theorem eqTy_step (N : Nat) (ih : EqTys N) : EqTy N := by
  intro k n ks aks cks aks' cks' w hN hr hr'
  have hbk : Ty.bulk (Ty.mk k n ks) = n.size + Ty.bulks ks := rfl
  obtain ⟨⟨lok, hik⟩, zn, hks⟩ := hr.fTy
  obtain ⟨⟨lok', hik'⟩, zn', hks'⟩ := hr'.fTy
  have hc1 := fun (W : World) (hb : Below w.heap.size w W) => ih ks aks aks' cks cks' W (by omega) (hks.below hb) (hks'.below hb)
  have HC1 := hid hc1
  have HX0 := hid (((Boxes.nil w).alloc #[.int .i64 k, .string n, .slice aks ks.length cks] 59 (0, 0)).alloc #[.int .i64 k, .string n, .slice aks' ks.length cks'] 59 (0, 0))
  have HB0 := hid (((Below.refl w.heap.size w).alloc (Nat.le_refl _) (.cells #[.int .i64 k, .string n, .slice aks ks.length cks] 59)).alloc (by simp) (.cells #[.int .i64 k, .string n, .slice aks' ks.length cks'] 59))
  clear hr hr' hbk hc1 ih hN hks hks'
  go_enter Tryz.func96, Tryz.ntmps96
  go_wp2_with fail
  refine (HC1.out _ HB0.out).mono ?_
  rintro e w1 ⟨rfl, hb1⟩
  have hbw1 := HB0.out.trans (hb1.mono (by simp; omega))
  have hx1 := HX0.out.below hb1
  have HX1 := hid hx1
  clear hx1 hb1 HC1
  go_wp2_with fail
  go_ret
  exact ⟨rfl, hbw1⟩

theorem eqTys_step (N : Nat) (ih : EqTy N) : EqTys (N + 1) := by
  intro ts a a' c c' w hN hr hr'
  obtain ⟨_, _, e, h2, h3, h4⟩ := hr.eTy
  simp only [Value.slice.injEq, true_and] at e
  obtain ⟨rfl, rfl⟩ := e
  obtain ⟨_, _, e, h2', h3', h4'⟩ := hr'.eTy
  simp only [Value.slice.injEq, true_and] at e
  obtain ⟨rfl, rfl⟩ := e
  have H4 := hid h4
  have H4' := hid h4'
  have IH := hid ih
  clear hr h4 hr' h4' ih
  go_enter Tryz.func139, Tryz.ntmps139
  go_wp2_with fail
  go_loopw [5] (fun i wr => ∃ (j : Nat), j ≤ ts.length ∧ i = .int .i64 j ∧ Below w.heap.size w wr) (fun i _ => ts.length - (intOf i).toNat)
  case atStart => exact ⟨0, by omega, rfl, Below.refl _ _⟩
  case round =>
    obtain ⟨j, hj, rfl, hb⟩ := hrel
    by_cases hlt : j < ts.length
    · obtain ⟨b, o, rfl, hbl, hall⟩ := H4.out (by omega)
      obtain ⟨b', o', rfl, hbl', hall'⟩ := H4'.out (by omega)
      obtain ⟨t, ht⟩ : ∃ t, ts[j]? = some t := ⟨_, List.getElem?_eq_getElem hlt⟩
      obtain ⟨k1, n1, ks1⟩ := t
      obtain ⟨aks1, cks1, q0, q1, q2, hrk⟩ := hall j k1 n1 ks1 ht
      obtain ⟨aks2, cks2, p0, p1, p2, hrk'⟩ := hall' j k1 n1 ks1 ht
      clear hall H4 hall' H4'
      have d0 := cell_regrown ((hb.cell (p := ⟨b, o + j * 3, none⟩) hbl).trans q0)
      have d3 := cell_regrown ((hb.cell (p := ⟨b', o' + j * 3, none⟩) hbl').trans p0)
      have d1 := cell_regrown ((hb.cell (p := ⟨b, o + j * 3 + 1, none⟩) hbl).trans q1)
      have d4 := cell_regrown ((hb.cell (p := ⟨b', o' + j * 3 + 1, none⟩) hbl').trans p1)
      have d2 := cell_regrown ((hb.cell (p := ⟨b, o + j * 3 + 2, none⟩) hbl).trans q2)
      have d5 := cell_regrown ((hb.cell (p := ⟨b', o' + j * 3 + 2, none⟩) hbl').trans p2)
      have hbg := Ty.bulk_get ts j _ ht
      have hc := fun d os => Calls.regrown_of (IH.out k1 n1 ks1 aks1 cks1 aks2 cks2 (grow (redrawn wr d) os) (by omega) ((hrk.below hb).below (below_regrown wr d os)) ((hrk'.below hb).below (below_regrown wr d os)))
      have HC := hid hc
      clear ht hrk hrk' q0 q1 q2 p0 p1 p2 hc
      go_wp2_with fail
      refine wp_region_quiet_below (by kernel_rfl) (by kernel_rfl) ?_
      repeat (quiet_step (exact HC.out _ _))
      refine wpQuiet_nil ?_
      intro _ hw'
      obtain ⟨⟨dq, osq⟩, hw''⟩ := hw'
      subst hw''
      have hbq := hb.trans ((below_regrown wr dq osq).mono hb.size)
      clear HC d0 d1 d2 d3 d4 d5
      go_wp2_with fail
      go_roundw
      case rel => exact ⟨j + 1, by omega, by go_num, hbq⟩
      case measure => simp [intOf]; omega
    · go_wp2_with fail
      go_ret
      exact ⟨rfl, hb⟩

theorem eqTy_all : ∀ M, EqTy M ∧ EqTys M
  | 0 => ⟨fun _ _ _ _ _ _ _ _ h => absurd h (by omega), fun _ _ _ _ _ _ h => absurd h (by omega)⟩
  | M + 1 => by
    have h := eqTy_all M
    have h2 := eqTys_step M h.1
    exact ⟨eqTy_step (M + 1) h2, h2⟩
theorem eqTy (k : Int) (n : ByteArray) (ks : List Ty) (aks : Option Addr) (cks : Nat) (aks' : Option Addr) (cks' : Nat) (w : World) (hr : RdS w (Ty.d (Ty.mk k n ks)) [.int .i64 k, .string n, .slice aks ks.length cks]) (hr' : RdS w (Ty.d (Ty.mk k n ks)) [.int .i64 k, .string n, .slice aks' ks.length cks']) :
    Calls Tryz.prog 96 #[.agg #[.int .i64 k, .string n, .slice aks ks.length cks], .agg #[.int .i64 k, .string n, .slice aks' ks.length cks']] w fun e w' => e = .returned (.bool true) ∧ Below w.heap.size w w' :=
  (eqTy_all (Ty.bulk (Ty.mk k n ks) + 1)).1 k n ks aks cks aks' cks' w (by omega) hr hr'
theorem eqTys (ts : List Ty) (a a' : Option Addr) (c c' : Nat) (w : World) (hr : RdL w (Ty.ds ts) (.slice a ts.length c)) (hr' : RdL w (Ty.ds ts) (.slice a' ts.length c')) :
    Calls Tryz.prog 139 #[.slice a ts.length c, .slice a' ts.length c'] w fun e w' => e = .returned (.bool true) ∧ Below w.heap.size w w' :=
  (eqTy_all (Ty.bulks ts + 1)).2 ts a a' c c' w (by omega) hr hr'

end Go.Proofs.YtgpefnlpbjnjbaaGreat

namespace Go.Proofs.YtgpefnlpbjnjbaaGreat
open Go.ChangeShapes Go.WideShapes Go.ChangeAt Go.RowKit
open Go.Sort (grow)
set_option linter.unusedVariables false

abbrev EqCon : Prop := ∀ (n : ByteArray) (fs : List Ty) (afs : Option Addr) (cfs : Nat) (afs' : Option Addr) (cfs' : Nat) (w : World), RdS w (Con.d (Con.mk n fs)) [.string n, .slice afs fs.length cfs] → RdS w (Con.d (Con.mk n fs)) [.string n, .slice afs' fs.length cfs'] →
  Calls Tryz.prog 138 #[.agg #[.string n, .slice afs fs.length cfs], .agg #[.string n, .slice afs' fs.length cfs']] w fun e w' => e = .returned (.bool true) ∧ Below w.heap.size w w'
theorem eqCon : EqCon := by
  intro n fs afs cfs afs' cfs' w hr hr'
  have hbk : Con.bulk (Con.mk n fs) = n.size + Ty.bulks fs := rfl
  obtain ⟨zn, hfs⟩ := hr.fCon
  obtain ⟨zn', hfs'⟩ := hr'.fCon
  have hc1 := fun (W : World) (hb : Below w.heap.size w W) => eqTys fs afs afs' cfs cfs' W (hfs.below hb) (hfs'.below hb)
  have HC1 := hid hc1
  have HX0 := hid (((Boxes.nil w).alloc #[.string n, .slice afs fs.length cfs] 116 (0, 0)).alloc #[.string n, .slice afs' fs.length cfs'] 116 (0, 0))
  have HB0 := hid (((Below.refl w.heap.size w).alloc (Nat.le_refl _) (.cells #[.string n, .slice afs fs.length cfs] 116)).alloc (by simp) (.cells #[.string n, .slice afs' fs.length cfs'] 116))
  clear hr hr' hbk hc1 hfs hfs'
  go_enter Tryz.func138, Tryz.ntmps138
  go_wp2_with fail
  refine (HC1.out _ HB0.out).mono ?_
  rintro e w1 ⟨rfl, hb1⟩
  have hbw1 := HB0.out.trans (hb1.mono (by simp; omega))
  have hx1 := HX0.out.below hb1
  have HX1 := hid hx1
  clear hx1 hb1 HC1
  go_wp2_with fail
  go_ret
  exact ⟨rfl, hbw1⟩

theorem eqCons (ts : List Con) (a a' : Option Addr) (c c' : Nat) (w : World) (hr : RdL w (Con.ds ts) (.slice a ts.length c)) (hr' : RdL w (Con.ds ts) (.slice a' ts.length c')) :
    Calls Tryz.prog 95 #[.slice a ts.length c, .slice a' ts.length c'] w fun e w' => e = .returned (.bool true) ∧ Below w.heap.size w w' := by
  obtain ⟨_, _, e, h2, h3, h4⟩ := hr.eCon
  simp only [Value.slice.injEq, true_and] at e
  obtain ⟨rfl, rfl⟩ := e
  obtain ⟨_, _, e, h2', h3', h4'⟩ := hr'.eCon
  simp only [Value.slice.injEq, true_and] at e
  obtain ⟨rfl, rfl⟩ := e
  have H4 := hid h4
  have H4' := hid h4'
  clear hr h4 hr' h4'
  go_enter Tryz.func95, Tryz.ntmps95
  go_wp2_with fail
  go_loopw [5] (fun i wr => ∃ (j : Nat), j ≤ ts.length ∧ i = .int .i64 j ∧ Below w.heap.size w wr) (fun i _ => ts.length - (intOf i).toNat)
  case atStart => exact ⟨0, by omega, rfl, Below.refl _ _⟩
  case round =>
    obtain ⟨j, hj, rfl, hb⟩ := hrel
    by_cases hlt : j < ts.length
    · obtain ⟨b, o, rfl, hbl, hall⟩ := H4.out (by omega)
      obtain ⟨b', o', rfl, hbl', hall'⟩ := H4'.out (by omega)
      obtain ⟨t, ht⟩ : ∃ t, ts[j]? = some t := ⟨_, List.getElem?_eq_getElem hlt⟩
      obtain ⟨n1, fs1⟩ := t
      obtain ⟨afs1, cfs1, q0, q1, hrk⟩ := hall j n1 fs1 ht
      obtain ⟨afs2, cfs2, p0, p1, hrk'⟩ := hall' j n1 fs1 ht
      clear hall H4 hall' H4'
      have d0 := cell_regrown ((hb.cell (p := ⟨b, o + j * 2, none⟩) hbl).trans q0)
      have d2 := cell_regrown ((hb.cell (p := ⟨b', o' + j * 2, none⟩) hbl').trans p0)
      have d1 := cell_regrown ((hb.cell (p := ⟨b, o + j * 2 + 1, none⟩) hbl).trans q1)
      have d3 := cell_regrown ((hb.cell (p := ⟨b', o' + j * 2 + 1, none⟩) hbl').trans p1)
      have hbg := Con.bulk_get ts j _ ht
      have hc := fun d os => Calls.regrown_of (eqCon n1 fs1 afs1 cfs1 afs2 cfs2 (grow (redrawn wr d) os) ((hrk.below hb).below (below_regrown wr d os)) ((hrk'.below hb).below (below_regrown wr d os)))
      have HC := hid hc
      clear ht hrk hrk' q0 q1 p0 p1 hc
      go_wp2_with fail
      refine wp_region_quiet_below (by kernel_rfl) (by kernel_rfl) ?_
      repeat (quiet_step (exact HC.out _ _))
      refine wpQuiet_nil ?_
      intro _ hw'
      obtain ⟨⟨dq, osq⟩, hw''⟩ := hw'
      subst hw''
      have hbq := hb.trans ((below_regrown wr dq osq).mono hb.size)
      clear HC d0 d1 d2 d3
      go_wp2_with fail
      go_roundw
      case rel => exact ⟨j + 1, by omega, by go_num, hbq⟩
      case measure => simp [intOf]; omega
    · go_wp2_with fail
      go_ret
      exact ⟨rfl, hb⟩

end Go.Proofs.YtgpefnlpbjnjbaaGreat

namespace Go.Proofs.YtgpefnlpbjnjbaaGreat
open Go.ChangeShapes Go.WideShapes Go.ChangeAt Go.RowKit
open Go.Sort (grow)
set_option linter.unusedVariables false

abbrev EqDat : Prop := ∀ (n : ByteArray) (qs : List Con) (aqs : Option Addr) (cqs : Nat) (aqs' : Option Addr) (cqs' : Nat) (w : World), RdS w (Dat.d (Dat.mk n qs)) [.string n, .slice aqs qs.length cqs] → RdS w (Dat.d (Dat.mk n qs)) [.string n, .slice aqs' qs.length cqs'] →
  Calls Tryz.prog 54 #[.agg #[.string n, .slice aqs qs.length cqs], .agg #[.string n, .slice aqs' qs.length cqs']] w fun e w' => e = .returned (.bool true) ∧ Below w.heap.size w w'
theorem eqDat : EqDat := by
  intro n qs aqs cqs aqs' cqs' w hr hr'
  have hbk : Dat.bulk (Dat.mk n qs) = n.size + Con.bulks qs := rfl
  obtain ⟨zn, hqs⟩ := hr.fDat
  obtain ⟨zn', hqs'⟩ := hr'.fDat
  have hc1 := fun (W : World) (hb : Below w.heap.size w W) => eqCons qs aqs aqs' cqs cqs' W (hqs.below hb) (hqs'.below hb)
  have HC1 := hid hc1
  have HX0 := hid (((Boxes.nil w).alloc #[.string n, .slice aqs qs.length cqs] 95 (0, 0)).alloc #[.string n, .slice aqs' qs.length cqs'] 95 (0, 0))
  have HB0 := hid (((Below.refl w.heap.size w).alloc (Nat.le_refl _) (.cells #[.string n, .slice aqs qs.length cqs] 95)).alloc (by simp) (.cells #[.string n, .slice aqs' qs.length cqs'] 95))
  clear hr hr' hbk hc1 hqs hqs'
  go_enter Tryz.func54, Tryz.ntmps54
  go_wp2_with fail
  refine (HC1.out _ HB0.out).mono ?_
  rintro e w1 ⟨rfl, hb1⟩
  have hbw1 := HB0.out.trans (hb1.mono (by simp; omega))
  have hx1 := HX0.out.below hb1
  have HX1 := hid hx1
  clear hx1 hb1 HC1
  go_wp2_with fail
  go_ret
  exact ⟨rfl, hbw1⟩

theorem eqDats (ts : List Dat) (a a' : Option Addr) (c c' : Nat) (w : World) (hr : RdL w (Dat.ds ts) (.slice a ts.length c)) (hr' : RdL w (Dat.ds ts) (.slice a' ts.length c')) :
    Calls Tryz.prog 28 #[.slice a ts.length c, .slice a' ts.length c'] w fun e w' => e = .returned (.bool true) ∧ Below w.heap.size w w' := by
  obtain ⟨_, _, e, h2, h3, h4⟩ := hr.eDat
  simp only [Value.slice.injEq, true_and] at e
  obtain ⟨rfl, rfl⟩ := e
  obtain ⟨_, _, e, h2', h3', h4'⟩ := hr'.eDat
  simp only [Value.slice.injEq, true_and] at e
  obtain ⟨rfl, rfl⟩ := e
  have H4 := hid h4
  have H4' := hid h4'
  clear hr h4 hr' h4'
  go_enter Tryz.func28, Tryz.ntmps28
  go_wp2_with fail
  go_loopw [5] (fun i wr => ∃ (j : Nat), j ≤ ts.length ∧ i = .int .i64 j ∧ Below w.heap.size w wr) (fun i _ => ts.length - (intOf i).toNat)
  case atStart => exact ⟨0, by omega, rfl, Below.refl _ _⟩
  case round =>
    obtain ⟨j, hj, rfl, hb⟩ := hrel
    by_cases hlt : j < ts.length
    · obtain ⟨b, o, rfl, hbl, hall⟩ := H4.out (by omega)
      obtain ⟨b', o', rfl, hbl', hall'⟩ := H4'.out (by omega)
      obtain ⟨t, ht⟩ : ∃ t, ts[j]? = some t := ⟨_, List.getElem?_eq_getElem hlt⟩
      obtain ⟨n1, qs1⟩ := t
      obtain ⟨aqs1, cqs1, q0, q1, hrk⟩ := hall j n1 qs1 ht
      obtain ⟨aqs2, cqs2, p0, p1, hrk'⟩ := hall' j n1 qs1 ht
      clear hall H4 hall' H4'
      have d0 := cell_regrown ((hb.cell (p := ⟨b, o + j * 2, none⟩) hbl).trans q0)
      have d2 := cell_regrown ((hb.cell (p := ⟨b', o' + j * 2, none⟩) hbl').trans p0)
      have d1 := cell_regrown ((hb.cell (p := ⟨b, o + j * 2 + 1, none⟩) hbl).trans q1)
      have d3 := cell_regrown ((hb.cell (p := ⟨b', o' + j * 2 + 1, none⟩) hbl').trans p1)
      have hbg := Dat.bulk_get ts j _ ht
      have hc := fun d os => Calls.regrown_of (eqDat n1 qs1 aqs1 cqs1 aqs2 cqs2 (grow (redrawn wr d) os) ((hrk.below hb).below (below_regrown wr d os)) ((hrk'.below hb).below (below_regrown wr d os)))
      have HC := hid hc
      clear ht hrk hrk' q0 q1 p0 p1 hc
      go_wp2_with fail
      refine wp_region_quiet_below (by kernel_rfl) (by kernel_rfl) ?_
      repeat (quiet_step (exact HC.out _ _))
      refine wpQuiet_nil ?_
      intro _ hw'
      obtain ⟨⟨dq, osq⟩, hw''⟩ := hw'
      subst hw''
      have hbq := hb.trans ((below_regrown wr dq osq).mono hb.size)
      clear HC d0 d1 d2 d3
      go_wp2_with fail
      go_roundw
      case rel => exact ⟨j + 1, by omega, by go_num, hbq⟩
      case measure => simp [intOf]; omega
    · go_wp2_with fail
      go_ret
      exact ⟨rfl, hb⟩

end Go.Proofs.YtgpefnlpbjnjbaaGreat

namespace Go.Proofs.YtgpefnlpbjnjbaaGreat
open Go.ChangeShapes Go.WideShapes Go.ChangeAt Go.RowKit
open Go.Sort (grow)
set_option linter.unusedVariables false

def EqTm (N : Nat) : Prop := ∀ (k : Int) (u : Int) (n : ByteArray) (tk : Int) (tn : ByteArray) (tks : List Ty) (ns : List ByteArray) (ks : List Tm) (atks : Option Addr) (ctks : Nat) (ans : Option Addr) (cns : Nat) (aks : Option Addr) (cks : Nat) (atks' : Option Addr) (ctks' : Nat) (ans' : Option Addr) (cns' : Nat) (aks' : Option Addr) (cks' : Nat) (w : World), Tm.bulk (Tm.mk k u n (Ty.mk tk tn tks) ns ks) < N → RdS w (Tm.d (Tm.mk k u n (Ty.mk tk tn tks) ns ks)) [.int .i64 k, .int .i64 u, .string n, .int .i64 tk, .string tn, .slice atks tks.length ctks, .slice ans ns.length cns, .slice aks ks.length cks] → RdS w (Tm.d (Tm.mk k u n (Ty.mk tk tn tks) ns ks)) [.int .i64 k, .int .i64 u, .string n, .int .i64 tk, .string tn, .slice atks' tks.length ctks', .slice ans' ns.length cns', .slice aks' ks.length cks'] →
  Calls Tryz.prog 97 #[.agg #[.int .i64 k, .int .i64 u, .string n, .int .i64 tk, .string tn, .slice atks tks.length ctks, .slice ans ns.length cns, .slice aks ks.length cks], .agg #[.int .i64 k, .int .i64 u, .string n, .int .i64 tk, .string tn, .slice atks' tks.length ctks', .slice ans' ns.length cns', .slice aks' ks.length cks']] w fun e w' => e = .returned (.bool true) ∧ Below w.heap.size w w'
def EqTms (N : Nat) : Prop := ∀ (ts : List Tm) (a a' : Option Addr) (c c' : Nat) (w : World), Tm.bulks ts < N → RdL w (Tm.ds ts) (.slice a ts.length c) → RdL w (Tm.ds ts) (.slice a' ts.length c') →
  Calls Tryz.prog 141 #[.slice a ts.length c, .slice a' ts.length c'] w fun e w' => e = .returned (.bool true) ∧ Below w.heap.size w w'
theorem eqTm_step (N : Nat) (ih : EqTms N) : EqTm N := by
  intro k u n tk tn tks ns ks atks ctks ans cns aks cks atks' ctks' ans' cns' aks' cks' w hN hr hr'
  have hbk : Tm.bulk (Tm.mk k u n (Ty.mk tk tn tks) ns ks) = n.size + Ty.bulk (Ty.mk tk tn tks) + Sr.bulks ns + Tm.bulks ks := rfl
  obtain ⟨⟨lok, hik⟩, ⟨lou, hiu⟩, zn, ⟨⟨lotk, hitk⟩, ztn, htks⟩, hns, hks⟩ := hr.fTm
  obtain ⟨⟨lok', hik'⟩, ⟨lou', hiu'⟩, zn', ⟨⟨lotk', hitk'⟩, ztn', htks'⟩, hns', hks'⟩ := hr'.fTm
  have hc1 := fun (W : World) (hb : Below w.heap.size w W) => eqTy tk tn tks atks ctks atks' ctks' W ((RdS.subTm_t hr).below hb) ((RdS.subTm_t hr').below hb)
  have hc2 := fun (W : World) (hb : Below w.heap.size w W) => eqSrs ns ans ans' cns cns' W (hns.below hb) (hns'.below hb)
  have hc3 := fun (W : World) (hb : Below w.heap.size w W) => ih ks aks aks' cks cks' W (by omega) (hks.below hb) (hks'.below hb)
  have HC1 := hid hc1
  have HC2 := hid hc2
  have HC3 := hid hc3
  have HX0 := hid (((Boxes.nil w).alloc #[.int .i64 k, .int .i64 u, .string n, .int .i64 tk, .string tn, .slice atks tks.length ctks, .slice ans ns.length cns, .slice aks ks.length cks] 63 (0, 0)).alloc #[.int .i64 k, .int .i64 u, .string n, .int .i64 tk, .string tn, .slice atks' tks.length ctks', .slice ans' ns.length cns', .slice aks' ks.length cks'] 63 (0, 0))
  have HB0 := hid (((Below.refl w.heap.size w).alloc (Nat.le_refl _) (.cells #[.int .i64 k, .int .i64 u, .string n, .int .i64 tk, .string tn, .slice atks tks.length ctks, .slice ans ns.length cns, .slice aks ks.length cks] 63)).alloc (by simp) (.cells #[.int .i64 k, .int .i64 u, .string n, .int .i64 tk, .string tn, .slice atks' tks.length ctks', .slice ans' ns.length cns', .slice aks' ks.length cks'] 63))
  clear hr hr' hbk hc1 hc2 hc3 ih hN htks htks' hns hns' hks hks'
  go_enter Tryz.func97, Tryz.ntmps97
  go_wp2_with fail
  refine (HC1.out _ HB0.out).mono ?_
  rintro e w1 ⟨rfl, hb1⟩
  have hbw1 := HB0.out.trans (hb1.mono (by simp; omega))
  have hx1 := HX0.out.below hb1
  have g1_6 := hx1.at 1 6 rfl rfl
  have k1_6 := hx1.at 0 6 rfl rfl
  have g1_7 := hx1.at 1 7 rfl rfl
  have k1_7 := hx1.at 0 7 rfl rfl
  simp only [World.size_alloc] at k1_6 k1_7
  have HX1 := hid hx1
  clear hx1 hb1 HC1
  go_wp2_with fail
  refine (HC2.out _ hbw1).mono ?_
  rintro e w2 ⟨rfl, hb2⟩
  have hbw2 := hbw1.trans (hb2.mono (by exact hbw1.size))
  have hx2 := HX1.out.below hb2
  have g2_7 := hx2.at 1 7 rfl rfl
  have k2_7 := hx2.at 0 7 rfl rfl
  simp only [World.size_alloc] at k2_7
  have HX2 := hid hx2
  clear hx2 hb2 HC2
  go_wp2_with fail
  refine (HC3.out _ hbw2).mono ?_
  rintro e w3 ⟨rfl, hb3⟩
  have hbw3 := hbw2.trans (hb3.mono (by exact hbw2.size))
  have hx3 := HX2.out.below hb3
  have HX3 := hid hx3
  clear hx3 hb3 HC3
  go_wp2_with fail
  go_ret
  exact ⟨rfl, hbw3⟩

theorem eqTms_step (N : Nat) (ih : EqTm N) : EqTms (N + 1) := by
  intro ts a a' c c' w hN hr hr'
  obtain ⟨_, _, e, h2, h3, h4⟩ := hr.eTm
  simp only [Value.slice.injEq, true_and] at e
  obtain ⟨rfl, rfl⟩ := e
  obtain ⟨_, _, e, h2', h3', h4'⟩ := hr'.eTm
  simp only [Value.slice.injEq, true_and] at e
  obtain ⟨rfl, rfl⟩ := e
  have H4 := hid h4
  have H4' := hid h4'
  have IH := hid ih
  clear hr h4 hr' h4' ih
  go_enter Tryz.func141, Tryz.ntmps141
  go_wp2_with fail
  go_loopw [5] (fun i wr => ∃ (j : Nat), j ≤ ts.length ∧ i = .int .i64 j ∧ Below w.heap.size w wr) (fun i _ => ts.length - (intOf i).toNat)
  case atStart => exact ⟨0, by omega, rfl, Below.refl _ _⟩
  case round =>
    obtain ⟨j, hj, rfl, hb⟩ := hrel
    by_cases hlt : j < ts.length
    · obtain ⟨b, o, rfl, hbl, hall⟩ := H4.out (by omega)
      obtain ⟨b', o', rfl, hbl', hall'⟩ := H4'.out (by omega)
      obtain ⟨t, ht⟩ : ∃ t, ts[j]? = some t := ⟨_, List.getElem?_eq_getElem hlt⟩
      obtain ⟨k1, u1, n1, ⟨tk1, tn1, tks1⟩, ns1, ks1⟩ := t
      obtain ⟨atks1, ctks1, ans1, cns1, aks1, cks1, q0, q1, q2, q3, q4, q5, q6, q7, hrk⟩ := hall j k1 u1 n1 tk1 tn1 tks1 ns1 ks1 ht
      obtain ⟨atks2, ctks2, ans2, cns2, aks2, cks2, p0, p1, p2, p3, p4, p5, p6, p7, hrk'⟩ := hall' j k1 u1 n1 tk1 tn1 tks1 ns1 ks1 ht
      clear hall H4 hall' H4'
      have d0 := cell_regrown ((hb.cell (p := ⟨b, o + j * 8, none⟩) hbl).trans q0)
      have d8 := cell_regrown ((hb.cell (p := ⟨b', o' + j * 8, none⟩) hbl').trans p0)
      have d1 := cell_regrown ((hb.cell (p := ⟨b, o + j * 8 + 1, none⟩) hbl).trans q1)
      have d9 := cell_regrown ((hb.cell (p := ⟨b', o' + j * 8 + 1, none⟩) hbl').trans p1)
      have d2 := cell_regrown ((hb.cell (p := ⟨b, o + j * 8 + 2, none⟩) hbl).trans q2)
      have d10 := cell_regrown ((hb.cell (p := ⟨b', o' + j * 8 + 2, none⟩) hbl').trans p2)
      have d3 := cell_regrown ((hb.cell (p := ⟨b, o + j * 8 + 3, none⟩) hbl).trans q3)
      have d11 := cell_regrown ((hb.cell (p := ⟨b', o' + j * 8 + 3, none⟩) hbl').trans p3)
      have d4 := cell_regrown ((hb.cell (p := ⟨b, o + j * 8 + 4, none⟩) hbl).trans q4)
      have d12 := cell_regrown ((hb.cell (p := ⟨b', o' + j * 8 + 4, none⟩) hbl').trans p4)
      have d5 := cell_regrown ((hb.cell (p := ⟨b, o + j * 8 + 5, none⟩) hbl).trans q5)
      have d13 := cell_regrown ((hb.cell (p := ⟨b', o' + j * 8 + 5, none⟩) hbl').trans p5)
      have d6 := cell_regrown ((hb.cell (p := ⟨b, o + j * 8 + 6, none⟩) hbl).trans q6)
      have d14 := cell_regrown ((hb.cell (p := ⟨b', o' + j * 8 + 6, none⟩) hbl').trans p6)
      have d7 := cell_regrown ((hb.cell (p := ⟨b, o + j * 8 + 7, none⟩) hbl).trans q7)
      have d15 := cell_regrown ((hb.cell (p := ⟨b', o' + j * 8 + 7, none⟩) hbl').trans p7)
      have hbg := Tm.bulk_get ts j _ ht
      have hc := fun d os => Calls.regrown_of (IH.out k1 u1 n1 tk1 tn1 tks1 ns1 ks1 atks1 ctks1 ans1 cns1 aks1 cks1 atks2 ctks2 ans2 cns2 aks2 cks2 (grow (redrawn wr d) os) (by omega) ((hrk.below hb).below (below_regrown wr d os)) ((hrk'.below hb).below (below_regrown wr d os)))
      have HC := hid hc
      clear ht hrk hrk' q0 q1 q2 q3 q4 q5 q6 q7 p0 p1 p2 p3 p4 p5 p6 p7 hc
      go_wp2_with fail
      refine wp_region_quiet_below (by kernel_rfl) (by kernel_rfl) ?_
      repeat (quiet_step (exact HC.out _ _))
      refine wpQuiet_nil ?_
      intro _ hw'
      obtain ⟨⟨dq, osq⟩, hw''⟩ := hw'
      subst hw''
      have hbq := hb.trans ((below_regrown wr dq osq).mono hb.size)
      clear HC d0 d1 d2 d3 d4 d5 d6 d7 d8 d9 d10 d11 d12 d13 d14 d15
      go_wp2_with fail
      go_roundw
      case rel => exact ⟨j + 1, by omega, by go_num, hbq⟩
      case measure => simp [intOf]; omega
    · go_wp2_with fail
      go_ret
      exact ⟨rfl, hb⟩

theorem eqTm_all : ∀ M, EqTm M ∧ EqTms M
  | 0 => ⟨fun _ _ _ _ _ _ _ _ _ _ _ _ _ _ _ _ _ _ _ _ _ h => absurd h (by omega), fun _ _ _ _ _ _ h => absurd h (by omega)⟩
  | M + 1 => by
    have h := eqTm_all M
    have h2 := eqTms_step M h.1
    exact ⟨eqTm_step (M + 1) h2, h2⟩
theorem eqTm (k : Int) (u : Int) (n : ByteArray) (tk : Int) (tn : ByteArray) (tks : List Ty) (ns : List ByteArray) (ks : List Tm) (atks : Option Addr) (ctks : Nat) (ans : Option Addr) (cns : Nat) (aks : Option Addr) (cks : Nat) (atks' : Option Addr) (ctks' : Nat) (ans' : Option Addr) (cns' : Nat) (aks' : Option Addr) (cks' : Nat) (w : World) (hr : RdS w (Tm.d (Tm.mk k u n (Ty.mk tk tn tks) ns ks)) [.int .i64 k, .int .i64 u, .string n, .int .i64 tk, .string tn, .slice atks tks.length ctks, .slice ans ns.length cns, .slice aks ks.length cks]) (hr' : RdS w (Tm.d (Tm.mk k u n (Ty.mk tk tn tks) ns ks)) [.int .i64 k, .int .i64 u, .string n, .int .i64 tk, .string tn, .slice atks' tks.length ctks', .slice ans' ns.length cns', .slice aks' ks.length cks']) :
    Calls Tryz.prog 97 #[.agg #[.int .i64 k, .int .i64 u, .string n, .int .i64 tk, .string tn, .slice atks tks.length ctks, .slice ans ns.length cns, .slice aks ks.length cks], .agg #[.int .i64 k, .int .i64 u, .string n, .int .i64 tk, .string tn, .slice atks' tks.length ctks', .slice ans' ns.length cns', .slice aks' ks.length cks']] w fun e w' => e = .returned (.bool true) ∧ Below w.heap.size w w' :=
  (eqTm_all (Tm.bulk (Tm.mk k u n (Ty.mk tk tn tks) ns ks) + 1)).1 k u n tk tn tks ns ks atks ctks ans cns aks cks atks' ctks' ans' cns' aks' cks' w (by omega) hr hr'
theorem eqTms (ts : List Tm) (a a' : Option Addr) (c c' : Nat) (w : World) (hr : RdL w (Tm.ds ts) (.slice a ts.length c)) (hr' : RdL w (Tm.ds ts) (.slice a' ts.length c')) :
    Calls Tryz.prog 141 #[.slice a ts.length c, .slice a' ts.length c'] w fun e w' => e = .returned (.bool true) ∧ Below w.heap.size w w' :=
  (eqTm_all (Tm.bulks ts + 1)).2 ts a a' c c' w (by omega) hr hr'

end Go.Proofs.YtgpefnlpbjnjbaaGreat

namespace Go.Proofs.YtgpefnlpbjnjbaaGreat
open Go.ChangeShapes Go.WideShapes Go.ChangeAt Go.RowKit
open Go.Sort (grow)
set_option linter.unusedVariables false

abbrev EqDf : Prop := ∀ (n : ByteArray) (tk : Int) (tn : ByteArray) (tks : List Ty) (bk : Int) (bu : Int) (bn : ByteArray) (btk : Int) (btn : ByteArray) (btks : List Ty) (bns : List ByteArray) (bks : List Tm) (atks : Option Addr) (ctks : Nat) (abtks : Option Addr) (cbtks : Nat) (abns : Option Addr) (cbns : Nat) (abks : Option Addr) (cbks : Nat) (atks' : Option Addr) (ctks' : Nat) (abtks' : Option Addr) (cbtks' : Nat) (abns' : Option Addr) (cbns' : Nat) (abks' : Option Addr) (cbks' : Nat) (w : World), RdS w (Df.d (Df.mk n (Ty.mk tk tn tks) (Tm.mk bk bu bn (Ty.mk btk btn btks) bns bks))) [.string n, .int .i64 tk, .string tn, .slice atks tks.length ctks, .int .i64 bk, .int .i64 bu, .string bn, .int .i64 btk, .string btn, .slice abtks btks.length cbtks, .slice abns bns.length cbns, .slice abks bks.length cbks] → RdS w (Df.d (Df.mk n (Ty.mk tk tn tks) (Tm.mk bk bu bn (Ty.mk btk btn btks) bns bks))) [.string n, .int .i64 tk, .string tn, .slice atks' tks.length ctks', .int .i64 bk, .int .i64 bu, .string bn, .int .i64 btk, .string btn, .slice abtks' btks.length cbtks', .slice abns' bns.length cbns', .slice abks' bks.length cbks'] →
  Calls Tryz.prog 55 #[.agg #[.string n, .int .i64 tk, .string tn, .slice atks tks.length ctks, .int .i64 bk, .int .i64 bu, .string bn, .int .i64 btk, .string btn, .slice abtks btks.length cbtks, .slice abns bns.length cbns, .slice abks bks.length cbks], .agg #[.string n, .int .i64 tk, .string tn, .slice atks' tks.length ctks', .int .i64 bk, .int .i64 bu, .string bn, .int .i64 btk, .string btn, .slice abtks' btks.length cbtks', .slice abns' bns.length cbns', .slice abks' bks.length cbks']] w fun e w' => e = .returned (.bool true) ∧ Below w.heap.size w w'
theorem eqDf : EqDf := by
  intro n tk tn tks bk bu bn btk btn btks bns bks atks ctks abtks cbtks abns cbns abks cbks atks' ctks' abtks' cbtks' abns' cbns' abks' cbks' w hr hr'
  have hbk : Df.bulk (Df.mk n (Ty.mk tk tn tks) (Tm.mk bk bu bn (Ty.mk btk btn btks) bns bks)) = n.size + Ty.bulk (Ty.mk tk tn tks) + Tm.bulk (Tm.mk bk bu bn (Ty.mk btk btn btks) bns bks) := rfl
  obtain ⟨zn, ⟨⟨lotk, hitk⟩, ztn, htks⟩, ⟨⟨lobk, hibk⟩, ⟨lobu, hibu⟩, zbn, ⟨⟨lobtk, hibtk⟩, zbtn, hbtks⟩, hbns, hbks⟩⟩ := hr.fDf
  obtain ⟨zn', ⟨⟨lotk', hitk'⟩, ztn', htks'⟩, ⟨⟨lobk', hibk'⟩, ⟨lobu', hibu'⟩, zbn', ⟨⟨lobtk', hibtk'⟩, zbtn', hbtks'⟩, hbns', hbks'⟩⟩ := hr'.fDf
  have hc1 := fun (W : World) (hb : Below w.heap.size w W) => eqTy tk tn tks atks ctks atks' ctks' W ((RdS.subDf_t hr).below hb) ((RdS.subDf_t hr').below hb)
  have hc2 := fun (W : World) (hb : Below w.heap.size w W) => eqTm bk bu bn btk btn btks bns bks abtks cbtks abns cbns abks cbks abtks' cbtks' abns' cbns' abks' cbks' W ((RdS.subDf_b hr).below hb) ((RdS.subDf_b hr').below hb)
  have HC1 := hid hc1
  have HC2 := hid hc2
  have HX0 := hid (((Boxes.nil w).alloc #[.string n, .int .i64 tk, .string tn, .slice atks tks.length ctks, .int .i64 bk, .int .i64 bu, .string bn, .int .i64 btk, .string btn, .slice abtks btks.length cbtks, .slice abns bns.length cbns, .slice abks bks.length cbks] 65 (0, 0)).alloc #[.string n, .int .i64 tk, .string tn, .slice atks' tks.length ctks', .int .i64 bk, .int .i64 bu, .string bn, .int .i64 btk, .string btn, .slice abtks' btks.length cbtks', .slice abns' bns.length cbns', .slice abks' bks.length cbks'] 65 (0, 0))
  have HB0 := hid (((Below.refl w.heap.size w).alloc (Nat.le_refl _) (.cells #[.string n, .int .i64 tk, .string tn, .slice atks tks.length ctks, .int .i64 bk, .int .i64 bu, .string bn, .int .i64 btk, .string btn, .slice abtks btks.length cbtks, .slice abns bns.length cbns, .slice abks bks.length cbks] 65)).alloc (by simp) (.cells #[.string n, .int .i64 tk, .string tn, .slice atks' tks.length ctks', .int .i64 bk, .int .i64 bu, .string bn, .int .i64 btk, .string btn, .slice abtks' btks.length cbtks', .slice abns' bns.length cbns', .slice abks' bks.length cbks'] 65))
  clear hr hr' hbk hc1 hc2 htks htks' hbtks hbtks' hbns hbns' hbks hbks'
  go_enter Tryz.func55, Tryz.ntmps55
  go_wp2_with fail
  refine (HC1.out _ HB0.out).mono ?_
  rintro e w1 ⟨rfl, hb1⟩
  have hbw1 := HB0.out.trans (hb1.mono (by simp; omega))
  have hx1 := HX0.out.below hb1
  have g1_4 := hx1.at 1 4 rfl rfl
  have k1_4 := hx1.at 0 4 rfl rfl
  have g1_5 := hx1.at 1 5 rfl rfl
  have k1_5 := hx1.at 0 5 rfl rfl
  have g1_6 := hx1.at 1 6 rfl rfl
  have k1_6 := hx1.at 0 6 rfl rfl
  have g1_7 := hx1.at 1 7 rfl rfl
  have k1_7 := hx1.at 0 7 rfl rfl
  have g1_8 := hx1.at 1 8 rfl rfl
  have k1_8 := hx1.at 0 8 rfl rfl
  have g1_9 := hx1.at 1 9 rfl rfl
  have k1_9 := hx1.at 0 9 rfl rfl
  have g1_10 := hx1.at 1 10 rfl rfl
  have k1_10 := hx1.at 0 10 rfl rfl
  have g1_11 := hx1.at 1 11 rfl rfl
  have k1_11 := hx1.at 0 11 rfl rfl
  simp only [World.size_alloc] at k1_4 k1_5 k1_6 k1_7 k1_8 k1_9 k1_10 k1_11
  have HX1 := hid hx1
  clear hx1 hb1 HC1
  go_wp2_with fail
  refine (HC2.out _ hbw1).mono ?_
  rintro e w2 ⟨rfl, hb2⟩
  have hbw2 := hbw1.trans (hb2.mono (by exact hbw1.size))
  have hx2 := HX1.out.below hb2
  have HX2 := hid hx2
  clear hx2 hb2 HC2
  go_wp2_with fail
  go_ret
  exact ⟨rfl, hbw2⟩

theorem eqDfs (ts : List Df) (a a' : Option Addr) (c c' : Nat) (w : World) (hr : RdL w (Df.ds ts) (.slice a ts.length c)) (hr' : RdL w (Df.ds ts) (.slice a' ts.length c')) :
    Calls Tryz.prog 29 #[.slice a ts.length c, .slice a' ts.length c'] w fun e w' => e = .returned (.bool true) ∧ Below w.heap.size w w' := by
  obtain ⟨_, _, e, h2, h3, h4⟩ := hr.eDf
  simp only [Value.slice.injEq, true_and] at e
  obtain ⟨rfl, rfl⟩ := e
  obtain ⟨_, _, e, h2', h3', h4'⟩ := hr'.eDf
  simp only [Value.slice.injEq, true_and] at e
  obtain ⟨rfl, rfl⟩ := e
  have H4 := hid h4
  have H4' := hid h4'
  clear hr h4 hr' h4'
  go_enter Tryz.func29, Tryz.ntmps29
  go_wp2_with fail
  go_loopw [5] (fun i wr => ∃ (j : Nat), j ≤ ts.length ∧ i = .int .i64 j ∧ Below w.heap.size w wr) (fun i _ => ts.length - (intOf i).toNat)
  case atStart => exact ⟨0, by omega, rfl, Below.refl _ _⟩
  case round =>
    obtain ⟨j, hj, rfl, hb⟩ := hrel
    by_cases hlt : j < ts.length
    · obtain ⟨b, o, rfl, hbl, hall⟩ := H4.out (by omega)
      obtain ⟨b', o', rfl, hbl', hall'⟩ := H4'.out (by omega)
      obtain ⟨t, ht⟩ : ∃ t, ts[j]? = some t := ⟨_, List.getElem?_eq_getElem hlt⟩
      obtain ⟨n1, ⟨tk1, tn1, tks1⟩, ⟨bk1, bu1, bn1, ⟨btk1, btn1, btks1⟩, bns1, bks1⟩⟩ := t
      obtain ⟨atks1, ctks1, abtks1, cbtks1, abns1, cbns1, abks1, cbks1, q0, q1, q2, q3, q4, q5, q6, q7, q8, q9, q10, q11, hrk⟩ := hall j n1 tk1 tn1 tks1 bk1 bu1 bn1 btk1 btn1 btks1 bns1 bks1 ht
      obtain ⟨atks2, ctks2, abtks2, cbtks2, abns2, cbns2, abks2, cbks2, p0, p1, p2, p3, p4, p5, p6, p7, p8, p9, p10, p11, hrk'⟩ := hall' j n1 tk1 tn1 tks1 bk1 bu1 bn1 btk1 btn1 btks1 bns1 bks1 ht
      clear hall H4 hall' H4'
      have d0 := cell_regrown ((hb.cell (p := ⟨b, o + j * 12, none⟩) hbl).trans q0)
      have d12 := cell_regrown ((hb.cell (p := ⟨b', o' + j * 12, none⟩) hbl').trans p0)
      have d1 := cell_regrown ((hb.cell (p := ⟨b, o + j * 12 + 1, none⟩) hbl).trans q1)
      have d13 := cell_regrown ((hb.cell (p := ⟨b', o' + j * 12 + 1, none⟩) hbl').trans p1)
      have d2 := cell_regrown ((hb.cell (p := ⟨b, o + j * 12 + 2, none⟩) hbl).trans q2)
      have d14 := cell_regrown ((hb.cell (p := ⟨b', o' + j * 12 + 2, none⟩) hbl').trans p2)
      have d3 := cell_regrown ((hb.cell (p := ⟨b, o + j * 12 + 3, none⟩) hbl).trans q3)
      have d15 := cell_regrown ((hb.cell (p := ⟨b', o' + j * 12 + 3, none⟩) hbl').trans p3)
      have d4 := cell_regrown ((hb.cell (p := ⟨b, o + j * 12 + 4, none⟩) hbl).trans q4)
      have d16 := cell_regrown ((hb.cell (p := ⟨b', o' + j * 12 + 4, none⟩) hbl').trans p4)
      have d5 := cell_regrown ((hb.cell (p := ⟨b, o + j * 12 + 5, none⟩) hbl).trans q5)
      have d17 := cell_regrown ((hb.cell (p := ⟨b', o' + j * 12 + 5, none⟩) hbl').trans p5)
      have d6 := cell_regrown ((hb.cell (p := ⟨b, o + j * 12 + 6, none⟩) hbl).trans q6)
      have d18 := cell_regrown ((hb.cell (p := ⟨b', o' + j * 12 + 6, none⟩) hbl').trans p6)
      have d7 := cell_regrown ((hb.cell (p := ⟨b, o + j * 12 + 7, none⟩) hbl).trans q7)
      have d19 := cell_regrown ((hb.cell (p := ⟨b', o' + j * 12 + 7, none⟩) hbl').trans p7)
      have d8 := cell_regrown ((hb.cell (p := ⟨b, o + j * 12 + 8, none⟩) hbl).trans q8)
      have d20 := cell_regrown ((hb.cell (p := ⟨b', o' + j * 12 + 8, none⟩) hbl').trans p8)
      have d9 := cell_regrown ((hb.cell (p := ⟨b, o + j * 12 + 9, none⟩) hbl).trans q9)
      have d21 := cell_regrown ((hb.cell (p := ⟨b', o' + j * 12 + 9, none⟩) hbl').trans p9)
      have d10 := cell_regrown ((hb.cell (p := ⟨b, o + j * 12 + 10, none⟩) hbl).trans q10)
      have d22 := cell_regrown ((hb.cell (p := ⟨b', o' + j * 12 + 10, none⟩) hbl').trans p10)
      have d11 := cell_regrown ((hb.cell (p := ⟨b, o + j * 12 + 11, none⟩) hbl).trans q11)
      have d23 := cell_regrown ((hb.cell (p := ⟨b', o' + j * 12 + 11, none⟩) hbl').trans p11)
      have hbg := Df.bulk_get ts j _ ht
      have hc := fun d os => Calls.regrown_of (eqDf n1 tk1 tn1 tks1 bk1 bu1 bn1 btk1 btn1 btks1 bns1 bks1 atks1 ctks1 abtks1 cbtks1 abns1 cbns1 abks1 cbks1 atks2 ctks2 abtks2 cbtks2 abns2 cbns2 abks2 cbks2 (grow (redrawn wr d) os) ((hrk.below hb).below (below_regrown wr d os)) ((hrk'.below hb).below (below_regrown wr d os)))
      have HC := hid hc
      clear ht hrk hrk' q0 q1 q2 q3 q4 q5 q6 q7 q8 q9 q10 q11 p0 p1 p2 p3 p4 p5 p6 p7 p8 p9 p10 p11 hc
      go_wp2_with fail
      refine wp_region_quiet_below (by kernel_rfl) (by kernel_rfl) ?_
      repeat (quiet_step (exact HC.out _ _))
      refine wpQuiet_nil ?_
      intro _ hw'
      obtain ⟨⟨dq, osq⟩, hw''⟩ := hw'
      subst hw''
      have hbq := hb.trans ((below_regrown wr dq osq).mono hb.size)
      clear HC d0 d1 d2 d3 d4 d5 d6 d7 d8 d9 d10 d11 d12 d13 d14 d15 d16 d17 d18 d19 d20 d21 d22 d23
      go_wp2_with fail
      go_roundw
      case rel => exact ⟨j + 1, by omega, by go_num, hbq⟩
      case measure => simp [intOf]; omega
    · go_wp2_with fail
      go_ret
      exact ⟨rfl, hb⟩

end Go.Proofs.YtgpefnlpbjnjbaaGreat

namespace Go.Proofs.YtgpefnlpbjnjbaaGreat
open Go.ChangeShapes Go.WideShapes Go.ChangeAt Go.RowKit
open Go.Sort (grow)
set_option linter.unusedVariables false

abbrev EqPg : Prop := ∀ (ds : List Dat) (fs : List Df) (ads : Option Addr) (cds : Nat) (afs : Option Addr) (cfs : Nat) (ads' : Option Addr) (cds' : Nat) (afs' : Option Addr) (cfs' : Nat) (w : World), RdS w (Pg.d (Pg.mk ds fs)) [.slice ads ds.length cds, .slice afs fs.length cfs] → RdS w (Pg.d (Pg.mk ds fs)) [.slice ads' ds.length cds', .slice afs' fs.length cfs'] →
  Calls Tryz.prog 11 #[.agg #[.slice ads ds.length cds, .slice afs fs.length cfs], .agg #[.slice ads' ds.length cds', .slice afs' fs.length cfs']] w fun e w' => e = .returned (.bool true) ∧ Below w.heap.size w w'
theorem eqPg : EqPg := by
  intro ds fs ads cds afs cfs ads' cds' afs' cfs' w hr hr'
  have hbk : Pg.bulk (Pg.mk ds fs) = Dat.bulks ds + Df.bulks fs := rfl
  obtain ⟨hds, hfs⟩ := hr.fPg
  obtain ⟨hds', hfs'⟩ := hr'.fPg
  have hc1 := fun (W : World) (hb : Below w.heap.size w W) => eqDats ds ads ads' cds cds' W (hds.below hb) (hds'.below hb)
  have hc2 := fun (W : World) (hb : Below w.heap.size w W) => eqDfs fs afs afs' cfs cfs' W (hfs.below hb) (hfs'.below hb)
  have HC1 := hid hc1
  have HC2 := hid hc2
  have HX0 := hid (((Boxes.nil w).alloc #[.slice ads ds.length cds, .slice afs fs.length cfs] 32 (0, 0)).alloc #[.slice ads' ds.length cds', .slice afs' fs.length cfs'] 32 (0, 0))
  have HB0 := hid (((Below.refl w.heap.size w).alloc (Nat.le_refl _) (.cells #[.slice ads ds.length cds, .slice afs fs.length cfs] 32)).alloc (by simp) (.cells #[.slice ads' ds.length cds', .slice afs' fs.length cfs'] 32))
  clear hr hr' hbk hc1 hc2 hds hds' hfs hfs'
  go_enter Tryz.func11, Tryz.ntmps11
  go_wp2_with fail
  refine (HC1.out _ HB0.out).mono ?_
  rintro e w1 ⟨rfl, hb1⟩
  have hbw1 := HB0.out.trans (hb1.mono (by simp; omega))
  have hx1 := HX0.out.below hb1
  have g1_1 := hx1.at 1 1 rfl rfl
  have k1_1 := hx1.at 0 1 rfl rfl
  simp only [World.size_alloc] at k1_1
  have HX1 := hid hx1
  clear hx1 hb1 HC1
  go_wp2_with fail
  refine (HC2.out _ hbw1).mono ?_
  rintro e w2 ⟨rfl, hb2⟩
  have hbw2 := hbw1.trans (hb2.mono (by exact hbw1.size))
  have hx2 := HX1.out.below hb2
  have HX2 := hid hx2
  clear hx2 hb2 HC2
  go_wp2_with fail
  go_ret
  exact ⟨rfl, hbw2⟩

end Go.Proofs.YtgpefnlpbjnjbaaGreat

namespace Go.Proofs.YtgpefnlpbjnjbaaGreat
open Go.RowKit

theorem putI_self (n : Int) : ∀ l : List Int, n ∈ putI n l
  | [] => by simp [putI]
  | x :: l => by
    rw [putI]
    split
    · split
      · simp
      · rename_i h1 h2; have : n = x := by omega
        subst this; simp
    · simp [putI_self n l]
theorem putI_keep (n : Int) : ∀ (l : List Int) (x : Int), x ∈ l → x ∈ putI n l
  | y :: l, x, h => by
    rw [putI]
    split
    · split
      · exact List.mem_cons_of_mem _ h
      · exact h
    · rcases List.mem_cons.1 h with h | h
      · simp [h]
      · exact List.mem_cons_of_mem _ (putI_keep n l x h)
theorem putI_rise (n : Int) : ∀ l : List Int, l.Pairwise (· < ·) → (putI n l).Pairwise (· < ·)
  | [], _ => by simp [putI]
  | x :: l, h => by
    have h' := List.pairwise_cons.1 h
    rw [putI]
    split
    · split
      · refine List.pairwise_cons.2 ⟨fun y hy => ?_, h⟩
        rcases List.mem_cons.1 hy with rfl | hy
        · assumption
        · have := h'.1 y hy; omega
      · exact h
    · refine List.pairwise_cons.2 ⟨fun y hy => ?_, putI_rise n l h'.2⟩
      rcases putI_mem n l y hy with rfl | hy
      · omega
      · exact h'.1 y hy
theorem putAll_iff : ∀ (ns l0 : List Int) (x : Int), x ∈ putAll l0 ns ↔ x ∈ ns ∨ x ∈ l0
  | [], _, x => by simp [putAll]
  | n :: ns, l0, x => by
    refine ⟨putAll_mem _ _ _, fun h => ?_⟩
    show x ∈ putAll (putI n l0) ns
    rw [putAll_iff ns]
    rcases h with h | h
    · rcases List.mem_cons.1 h with rfl | h
      · exact .inr (putI_self _ _)
      · exact .inl h
    · exact .inr (putI_keep _ _ _ h)
theorem putAll_rise : ∀ (ns l0 : List Int), l0.Pairwise (· < ·) → (putAll l0 ns).Pairwise (· < ·)
  | [], _, h => h
  | n :: ns, l0, h => putAll_rise ns (putI n l0) (putI_rise n l0 h)
theorem rise_nodup {l : List Int} (h : l.Pairwise (· < ·)) : l.Nodup := h.imp (fun h e => by omega)
theorem rise_le {l : List Int} (h : l.Pairwise (· < ·)) : l.Pairwise (· ≤ ·) := h.imp (fun h => by omega)
/-- Two rising lists of the same numbers are one. -/
theorem rise_same {a b : List Int} (ha : a.Pairwise (· < ·)) (hb : b.Pairwise (· < ·)) (h : ∀ x, x ∈ a ↔ x ∈ b) : a = b :=
  rise_perm a b ((List.perm_ext_iff_of_nodup (rise_nodup ha) (rise_nodup hb)).2 h) (rise_le ha) (rise_le hb)
/-- A list inside another of no greater length holds all of it. -/
theorem nodup_sub : ∀ (a b : List Int), a.Nodup → b.Nodup → (∀ x ∈ a, x ∈ b) → b.length ≤ a.length → ∀ x ∈ b, x ∈ a
  | [], b, _, _, _, hl, x, hx => by
    have : b = [] := List.length_eq_zero_iff.1 (by simpa using hl)
    rw [this] at hx; exact hx
  | y :: a, b, ha, hb, hs, hl, x, hx => by
    have ha' := List.nodup_cons.1 ha
    have hyb : y ∈ b := hs y (by simp)
    by_cases e : x = y
    · simp [e]
    · refine List.mem_cons_of_mem _ (nodup_sub a (b.erase y) ha'.2 (hb.erase _) (fun z hz => ?_) ?_ x ?_)
      · exact (List.Nodup.mem_erase_iff hb).2 ⟨fun e => ha'.1 (e ▸ hz), hs z (by simp [hz])⟩
      · rw [List.length_erase_of_mem hyb]; simp only [List.length_cons] at hl; omega
      · exact (List.Nodup.mem_erase_iff hb).2 ⟨e, hx⟩
/-- One round: to each number of a list, what it uses is put in. -/
def stepR (fs : List Df) (out now : List Int) : List Int := now.foldl (fun o i => putAll o (usedAt fs i)) out
def roundR (fs : List Df) (l : List Int) : List Int := stepR fs l l
theorem stepR_cons (fs : List Df) (out now : List Int) (i : Int) : stepR fs out (i :: now) = stepR fs (putAll out (usedAt fs i)) now := rfl
theorem stepR_iff (fs : List Df) : ∀ (now out : List Int) (x : Int), x ∈ stepR fs out now ↔ x ∈ out ∨ ∃ i ∈ now, x ∈ usedAt fs i
  | [], out, x => by simp [stepR]
  | i :: now, out, x => by
    rw [stepR_cons, stepR_iff fs now, putAll_iff]
    constructor
    · rintro ((h | h) | ⟨j, hj, h⟩)
      · exact .inr ⟨i, by simp, h⟩
      · exact .inl h
      · exact .inr ⟨j, by simp [hj], h⟩
    · rintro (h | ⟨j, hj, h⟩)
      · exact .inl (.inr h)
      · rcases List.mem_cons.1 hj with rfl | hj
        · exact .inl (.inl h)
        · exact .inr ⟨j, hj, h⟩
theorem stepR_rise (fs : List Df) : ∀ (now out : List Int), out.Pairwise (· < ·) → (stepR fs out now).Pairwise (· < ·)
  | [], _, h => h
  | i :: now, out, h => by rw [stepR_cons]; exact stepR_rise fs now _ (putAll_rise _ _ h)
def roundsR (fs : List Df) : Nat → List Int → List Int
  | 0, l => l
  | n + 1, l => roundsR fs n (roundR fs l)
/-- A set that holds all that its members use. -/
def ClosedR (fs : List Df) (P : Int → Prop) : Prop := ∀ a u, P a → u ∈ usedAt fs a → P u
def InR (fs : List Df) (l : List Int) : Prop := ∀ x ∈ l, 0 ≤ x ∧ x < fs.length
theorem roundsR_fix (fs : List Df) (l : List Int) (h : roundR fs l = l) : ∀ n, roundsR fs n l = l
  | 0 => rfl
  | n + 1 => by rw [roundsR, h]; exact roundsR_fix fs l h n
theorem roundR_closed {fs : List Df} {l : List Int} (h : roundR fs l = l) : ClosedR fs (· ∈ l) := fun a u ha hu => by
  show u ∈ l
  rw [← h]
  exact (stepR_iff fs l l u).2 (.inr ⟨a, ha, hu⟩)
theorem roundR_in {fs : List Df} (hf : ∀ a u : Int, 0 ≤ a ∧ a < fs.length → u ∈ usedAt fs a → 0 ≤ u ∧ u < fs.length) {l : List Int} (h : InR fs l) : InR fs (roundR fs l) := fun x hx => by
  rcases (stepR_iff fs l l x).1 hx with hx | ⟨i, hi, hx⟩
  · exact h x hx
  · exact hf i x (h i hi) hx
theorem stepR_in {fs : List Df} (hf : ∀ a u : Int, 0 ≤ a ∧ a < fs.length → u ∈ usedAt fs a → 0 ≤ u ∧ u < fs.length) {l m : List Int} (h : InR fs l) (h2 : InR fs m) : InR fs (stepR fs l m) := fun x hx => by
  rcases (stepR_iff fs m l x).1 hx with hx | ⟨i, hi, hx⟩
  · exact h x hx
  · exact hf i x (h2 i hi) hx
theorem roundsR_all {fs : List Df} (hf : ∀ a u : Int, 0 ≤ a ∧ a < fs.length → u ∈ usedAt fs a → 0 ≤ u ∧ u < fs.length) : ∀ (n : Nat) (l : List Int), l.Pairwise (· < ·) → InR fs l →
    (roundsR fs n l).Pairwise (· < ·) ∧ InR fs (roundsR fs n l) ∧ (∀ x ∈ l, x ∈ roundsR fs n l) ∧ (∀ P, ClosedR fs P → (∀ x ∈ l, P x) → ∀ x ∈ roundsR fs n l, P x)
  | 0, l, h1, h2 => ⟨h1, h2, fun _ h => h, fun _ _ h => h⟩
  | n + 1, l, h1, h2 => by
    obtain ⟨k1, k2, k3, k4⟩ := roundsR_all hf n (roundR fs l) (stepR_rise fs l l h1) (roundR_in hf h2)
    refine ⟨k1, k2, fun x hx => k3 x ((stepR_iff fs l l x).2 (.inl hx)), fun P hP hl => k4 P hP (fun x hx => ?_)⟩
    rcases (stepR_iff fs l l x).1 hx with hx | ⟨i, hi, hx⟩
    · exact hl x hx
    · exact hP i x (hl i hi) hx
theorem roundsR_closed {fs : List Df} (hf : ∀ a u : Int, 0 ≤ a ∧ a < fs.length → u ∈ usedAt fs a → 0 ≤ u ∧ u < fs.length) : ∀ (n : Nat) (l : List Int), l.Pairwise (· < ·) → InR fs l → fs.length + 1 ≤ l.length + n → ClosedR fs (· ∈ roundsR fs n l)
  | 0, l, h1, h2, h => absurd (nodup_len fs.length l (rise_nodup h1) h2) (by omega)
  | n + 1, l, h1, h2, h => by
    by_cases e : roundR fs l = l
    · rw [roundsR_fix fs l e]; exact roundR_closed e
    · refine roundsR_closed hf n (roundR fs l) (stepR_rise fs l l h1) (roundR_in hf h2) ?_
      have hlt : l.length < (roundR fs l).length := by
        refine Nat.lt_of_not_le fun hle => e ?_
        refine rise_same (stepR_rise fs l l h1) h1 fun x => ⟨fun hx => ?_, fun hx => (stepR_iff fs l l x).2 (.inl hx)⟩
        exact nodup_sub l (roundR fs l) (rise_nodup h1) (rise_nodup (stepR_rise fs l l h1)) (fun y hy => (stepR_iff fs l l y).2 (.inl hy)) hle x hx
      omega
def reachOf (fs : List Df) (k : Int) : List Int := roundsR fs fs.length [k]
def reachN : Pg → Int → List Int
  | .mk ds fs, k => if checkN (.mk ds fs) = 0 ∧ 0 ≤ k ∧ k < fs.length then reachOf fs k else []
/-- In a checked program what is used is a definition. -/
theorem used_in {ds : List Dat} {fs : List Df} (h : checkN (.mk ds fs) = 0) : ∀ a u : Int, 0 ≤ a ∧ a < fs.length → u ∈ usedAt fs a → 0 ≤ u ∧ u < fs.length := fun a u ha hu => by
  unfold usedAt at hu
  cases hd : fs[a.toNat]? with
  | none => rw [hd] at hu; simp at hu
  | some d =>
    rw [hd] at hu
    obtain ⟨n, t, b⟩ := d
    have hk := free_known h hd
    rcases putAll_mem _ _ u hu with h | h
    · obtain ⟨nm, hm, rfl⟩ := List.mem_map.1 h
      exact ⟨hk nm hm, (namedF_bd fs nm).2⟩
    · simp at h
/-- What the search of the program holds: different numbers, each reached, the first ones done. -/
def SearchR (fs : List Df) (k : Int) (i : Nat) (zs : List Int) : Prop :=
  zs.Nodup ∧ InR fs zs ∧ k ∈ zs ∧ (∀ P, ClosedR fs P → P k → ∀ x ∈ zs, P x) ∧ (∀ (j : Nat) x, j < i → zs[j]? = some x → ∀ u ∈ usedAt fs x, u ∈ zs)
theorem SearchR.start {fs : List Df} {k : Int} (h : 0 ≤ k ∧ k < fs.length) : SearchR fs k 0 [k] :=
  ⟨by simp, fun x hx => by simp at hx; subst hx; exact h, by simp, fun P _ hk x hx => by simp at hx; subst hx; exact hk, fun j x hj => absurd hj (by omega)⟩
/-- Some of what one uses is in. -/
def SearchU (fs : List Df) (k : Int) (i : Nat) (us : List Int) (zs : List Int) : Prop :=
  SearchR fs k i zs ∧ ∀ u ∈ us, u ∈ zs
theorem SearchU.old {fs : List Df} {k : Int} {i : Nat} {us zs : List Int} {u : Int} (h : SearchU fs k i us zs) (hu : u ∈ zs) : SearchU fs k i (us ++ [u]) zs :=
  ⟨h.1, fun x hx => by
    rcases List.mem_append.1 hx with hx | hx
    · exact h.2 x hx
    · simp at hx; subst hx; exact hu⟩
theorem SearchU.new {fs : List Df} {k : Int} {i : Nat} {us zs : List Int} {u x : Int} (hf : ∀ a u : Int, 0 ≤ a ∧ a < fs.length → u ∈ usedAt fs a → 0 ≤ u ∧ u < fs.length) (h : SearchU fs k i us zs) (hi : zs[i]? = some x) (hx : u ∈ usedAt fs x) (hu : u ∉ zs) : SearchU fs k i (us ++ [u]) (zs ++ [u]) := by
  obtain ⟨⟨h1, h2, h3, h4, h5⟩, h6⟩ := h
  have hxm : x ∈ zs := List.mem_of_getElem? hi
  have hil : i < zs.length := (List.getElem?_eq_some_iff.1 hi).1
  refine ⟨⟨List.nodup_append.2 ⟨h1, by simp, fun a ha b hb e => ?_⟩, fun y hy => ?_, by simp [h3], fun P hP hk y hy => ?_, fun j y hj hy v hv => ?_⟩, fun y hy => ?_⟩
  · simp at hb; subst hb; subst e; exact hu ha
  · rcases List.mem_append.1 hy with hy | hy
    · exact h2 y hy
    · simp at hy; subst hy; exact hf x _ (h2 x hxm) hx
  · rcases List.mem_append.1 hy with hy | hy
    · exact h4 P hP hk y hy
    · simp at hy; subst hy; exact hP x _ (h4 P hP hk x hxm) hx
  · rw [List.getElem?_append_left (by omega)] at hy
    exact List.mem_append_left _ (h5 j y hj hy v hv)
  · rcases List.mem_append.1 hy with hy | hy
    · exact List.mem_append_left _ (h6 y hy)
    · exact List.mem_append_right _ hy
theorem SearchU.get {i : Nat} {zs : List Int} {u x : Int} (hi : zs[i]? = some x) : (zs ++ [u])[i]? = some x := by
  rw [List.getElem?_append_left (List.getElem?_eq_some_iff.1 hi).1]; exact hi
theorem SearchU.next {fs : List Df} {k : Int} {i : Nat} {us zs : List Int} {x : Int} (h : SearchU fs k i us zs) (hi : zs[i]? = some x) (hus : us = usedAt fs x) : SearchR fs k (i + 1) zs := by
  obtain ⟨⟨h1, h2, h3, h4, h5⟩, h6⟩ := h
  refine ⟨h1, h2, h3, h4, fun j y hj hy => ?_⟩
  by_cases e : j = i
  · subst e
    rw [hi] at hy
    obtain rfl := Option.some.inj hy
    rw [← hus]; exact h6
  · exact h5 j y (by omega) hy
theorem SearchR.len {fs : List Df} {k : Int} {i : Nat} {zs : List Int} (h : SearchR fs k i zs) : zs.length ≤ fs.length := nodup_len _ _ h.1 h.2.1
/-- At the end of the search the numbers are those of the rounds. -/
theorem SearchR.done {fs : List Df} {k : Int} {i : Nat} {zs : List Int} (hf : ∀ a u : Int, 0 ≤ a ∧ a < fs.length → u ∈ usedAt fs a → 0 ≤ u ∧ u < fs.length) (hk : 0 ≤ k ∧ k < fs.length) (h : SearchR fs k i zs) (hi : zs.length ≤ i) : putAll [] zs = reachOf fs k := by
  obtain ⟨h1, h2, h3, h4, h5⟩ := h
  have hk1 : InR fs [k] := fun x hx => by simp at hx; subst hx; exact hk
  obtain ⟨k1, k2, k3, k4⟩ := roundsR_all hf fs.length [k] (by simp) hk1
  have kc := roundsR_closed hf fs.length [k] (by simp) hk1 (by simp; omega)
  refine rise_same (putAll_rise _ _ List.Pairwise.nil) k1 fun x => ?_
  rw [putAll_iff]
  constructor
  · rintro (h | h)
    · exact h4 _ kc (k3 k (by simp)) x h
    · simp at h
  · intro h
    refine .inl (k4 (· ∈ zs) (fun a u ha hu => ?_) (fun y hy => by simp at hy; subst hy; exact h3) x h)
    obtain ⟨j, hj⟩ := List.mem_iff_getElem?.1 ha
    exact h5 j a (by have := (List.getElem?_eq_some_iff.1 hj).1; omega) hj u hu
theorem reachN_len (ds : List Dat) (fs : List Df) (k : Int) : (reachN (.mk ds fs) k).length ≤ 1 + Pg.bulk (.mk ds fs) := by
  rw [reachN]
  split
  · rename_i h
    have h1 := (roundsR_all (used_in h.1) fs.length [k] (by simp) (fun x hx => by simp at hx; subst hx; exact h.2))
    have h2 := nodup_len _ _ (rise_nodup h1.1) h1.2.1
    have h3 := Df.bulks_length fs
    show (reachOf fs k).length ≤ _
    unfold reachOf
    simp only [Pg.bulk]
    omega
  · simp
end Go.Proofs.YtgpefnlpbjnjbaaGreat

namespace Go.Proofs.YtgpefnlpbjnjbaaGreat
open Go.ChangeShapes Go.WideShapes Go.ChangeAt Go.RowKit Go.BigFrame
open Go.Sort (grow)
set_option linter.unusedVariables false

theorem wpList_append_ints {w : World} {ops : Array Oper} {rest : List Oper} {o : Oper} {a : Act} {Q : Exit → Act → World → Prop} (hgd : o.guard = none) (s x : Operand)
    (ho : o.op = .call { callee := .builtin .append, args := #[s, x], argTypes := #[27, 27] })
    (base : Nat) (v : Value) (zs ns : List Int) (vx : Value) (hs : a.eval s = v) (hx : a.eval x = vx) (hown : w.ownsRow base 2 1 v zs.length (zs.map (Value.int .i64))) (hL : RdL w (In.ds ns) vx)
    (h63 : zs.length + ns.length ≤ 4194304) (hbase : base ≤ w.heap.size)
    (hK : ∀ v' w', w'.ownsRow base 2 1 v' (zs ++ ns).length ((zs ++ ns).map (Value.int .i64)) → w.grownBy w' v.ownBlock → wpList Tryz.prog ops Q rest (a.put o.dst v') w') : wpList Tryz.prog ops Q (o :: rest) a w := by
  obtain ⟨i0, hi, hz0, hz1, hz2⟩ := info_parts info64u
  obtain ⟨ao, c, rfl, h2, h3, h4⟩ := hL.eIn
  by_cases hn : ns = []
  case pos =>
    subst hn
    refine wpList_append_empty hgd s x _ ho base 2 i0 1 Tryz.underlying27 hi v _ _ hs hown ao c (by simpa using hx) ?_
    exact hK v w (by simpa using hown) ⟨rfl, rfl, rfl, Nat.le_refl _, fun k _ _ => rfl⟩
  case neg =>
    obtain ⟨b, o', rfl, hb, hc⟩ := h4 (List.length_pos_iff.2 hn)
    refine wpList_append_own w hgd s x _ ho base 2 i0 _ 1 8 Tryz.underlying27 hi hz0 hz1 hz2 rfl (by decide) v _ _ hs hown ⟨b, o', none⟩ ns.length c (ns.map (Value.int .i64)) hx (by simp) (fun j u hj => ?_) (fun u hu => ?_) (by simp only [maxLen]; omega) (by omega) hbase (fun v' w' h5 h6 _ => hK v' w' (by simpa using h5) h6)
    · rw [List.getElem?_map] at hj
      obtain ⟨s', hs', rfl⟩ := Option.map_eq_some_iff.1 hj
      rw [Addr.add_lit]
      exact (hc j s' hs').1
    · obtain ⟨s', _, rfl⟩ := List.mem_map.1 hu
      rfl
theorem own_one (w : World) (k : Int) : (w.alloc (.cells #[.int .i64 k] 2)).ownsRow w.heap.size 2 1 (.slice (some ⟨w.heap.size, 0, none⟩) 1 1) [k].length ([k].map (Value.int .i64)) :=
  ⟨rfl, .inr ⟨w.heap.size, 1, _, rfl, Nat.le_refl _, heap_alloc_new w _, by simp, by simp [maxLen], rfl, rfl⟩⟩
theorem spec_OwnI (xs : List Int) (v : Value) (w : World) (hl : xs.length ≤ 1048577) (hr : RdL w (In.ds xs) v) : Calls Tryz.prog 38 #[v] w (NewI w xs) := by
  have hb1 : Below w.heap.size w (w.alloc (.cells #[] 2)) := (Below.refl _ _).alloc (Nat.le_refl _) _
  have HB1 := hid hb1
  have HR1 := hid (hr.below hb1)
  have HO1 := hid (show (w.alloc (.cells #[] 2)).ownsRow w.heap.size 2 1 (.slice (some ⟨w.heap.size, 0, none⟩) 0 0) ([] : List Int).length (([] : List Int).map (Value.int .i64)) from World.ownsRow_made w #[] 0 (Nat.le_refl _) (by simp [maxLen]) rfl)
  have HL := hid hl
  obtain ⟨a, c, rfl, -⟩ := hr.eIn
  clear hb1 hr hl
  go_enter Tryz.func38, Tryz.ntmps38
  go_wp2_with (at_builtin; refine wpList_append_ints rfl _ _ rfl w.heap.size _ [] xs _ rfl rfl HO1.out HR1.out ?c1 ?c2 ?_)
  case c1 => have := HL.out; simp; omega
  case c2 => simp
  intro v2 w2 ho2 hg2
  have HP := hid (show NewI w xs (.returned v2) w2 from ⟨v2, rfl, by simpa using ho2, own_nextI HB1.out HB1.out.size HO1.out hg2⟩)
  clear ho2 hg2
  go_wp2_with fail
  go_ret
  exact HP.out
/-- Rising numbers of definitions. -/
def GoodI (fs : List Df) (l : List Int) : Prop := l.Pairwise (· < ·) ∧ InR fs l
theorem GoodI.len {fs : List Df} {l : List Int} (h : GoodI fs l) : l.length ≤ fs.length := nodup_len _ _ (rise_nodup h.1) h.2
theorem GoodI.put {fs : List Df} {l : List Int} {u : Int} (h : GoodI fs l) (hu : 0 ≤ u ∧ u < fs.length) : GoodI fs (putI u l) :=
  ⟨putI_rise u l h.1, fun x hx => by rcases putI_mem u l x hx with rfl | hx; exact hu; exact h.2 x hx⟩
theorem GoodI.rng {fs : List Df} {l : List Int} (h : GoodI fs l) (hn : fs.length ≤ 8) : ∀ x ∈ l, -9223372036854775808 ≤ x ∧ x ≤ 9223372036854775807 := fun x hx => by have := h.2 x hx; omega
theorem used_good {ds : List Dat} {fs : List Df} (h : checkN (.mk ds fs) = 0) {a : Int} (ha : 0 ≤ a ∧ a < fs.length) : GoodI fs (usedAt fs a) := by
  refine ⟨?_, fun u hu => used_in h a u ha hu⟩
  unfold usedAt
  cases fs[a.toNat]? with
  | none => exact List.Pairwise.nil
  | some d => exact putAll_rise _ _ List.Pairwise.nil
set_option maxRecDepth 100000 in
set_option maxHeartbeats 4000000 in
theorem spec_ReachableDefs (ds1 : List Dat) (fs1 : List Df) (ads1 : Option Addr) (cds1 : Nat) (afs1 : Option Addr) (cfs1 : Nat) (k : Int) (w : World) (hM : Pg.bulk (Pg.mk ds1 fs1) ≤ 1048576) (hr : RdS w (Pg.d (Pg.mk ds1 fs1)) [.slice ads1 ds1.length cds1, .slice afs1 fs1.length cfs1]) :
    Calls Tryz.prog 17 #[.agg #[.slice ads1 ds1.length cds1, .slice afs1 fs1.length cfs1], .int .i64 k] w (GivesIns (reachN (.mk ds1 fs1) k) w) := by
  have hB := (Below.refl w.heap.size w).alloc (Nat.le_refl _) (.cells #[.slice ads1 ds1.length cds1, .slice afs1 fs1.length cfs1] 32)
  have hx := heap_alloc_new w (.cells #[.slice ads1 ds1.length cds1, .slice afs1 fs1.length cfs1] 32)
  have HX := hid hx
  have HB := hid hB
  have hlf : fs1.length ≤ 1048576 := by have h1 := Df.bulks_length fs1; have h2 : Pg.bulk (Pg.mk ds1 fs1) = Dat.bulks ds1 + Df.bulks fs1 := rfl; omega
  have HC := hid (spec_l03Names ds1 fs1 ads1 cds1 afs1 cfs1 w.heap.size 0 _ hM (heap_cell hx (j := 0) rfl) (heap_cell hx (j := 1) rfl) (hr.below hB))
  have HR := hid hr
  have HM := hid hM
  clear hx hB hr hM
  by_cases hck : checkN (.mk ds1 fs1) = 0
  case neg =>
    have HE := hid (show reachN (.mk ds1 fs1) k = [] by rw [reachN, if_neg (fun h => hck h.1)])
    generalize checkN (.mk ds1 fs1) = r at HC hck
    have hg : (r != 0) = true := by simp [hck]
    clear hck
    go_enter Tryz.func17, Tryz.ntmps17
    go_wp2_with fail
    refine HC.out.mono ?_
    rintro e w1 ⟨rfl, hb⟩
    have HB1 := hid (HB.out.trans (hb.mono HB.out.size))
    clear hb
    go_wp2_with fail
    go_ret
    rw [HE.out]
    exact GivesIns_none _ (HB1.out.alloc HB1.out.size _)
  case pos =>
    have HCK := hid hck
    rw [hck] at HC
    have HIN := hid (show ∀ V, Calls Tryz.prog 22 #[.int .i64 k, .int .i64 0, .int .i64 ((fs1.length : Int) - 1)] V fun e w' => e = .returned (.bool (inR k 0 ((fs1.length : Int) - 1))) ∧ V = w' from fun V => spec_In k 0 _ V)
    clear hck
    by_cases hin : 0 ≤ k ∧ k < fs1.length
    case neg =>
      have HE := hid (show reachN (.mk ds1 fs1) k = [] by rw [reachN, if_neg (fun h => hin h.2)])
      have hq : inR k 0 ((fs1.length : Int) - 1) = false := by simp [inR]; omega
      rw [hq] at HIN
      clear hq hin
      go_enter Tryz.func17, Tryz.ntmps17
      go_wp2_with fail
      refine HC.out.mono ?_
      rintro e w1 ⟨rfl, hb⟩
      have HB1 := hid (HB.out.trans (hb.mono HB.out.size))
      have HX1 := hid (heap_liftu HX.out hb)
      have e0 := heap_cell HX1.out (j := 0) rfl
      have e1 := heap_cell HX1.out (j := 1) rfl
      clear hb
      go_wp2_with fail
      refine (HIN.out _).mono ?_
      rintro e w2 ⟨rfl, rfl⟩
      go_wp2_with fail
      go_ret
      rw [HE.out]
      exact GivesIns_none _ (HB1.out.alloc HB1.out.size _)
    case pos =>
      have HE := hid (show reachN (.mk ds1 fs1) k = roundsR fs1 fs1.length [k] by rw [reachN, if_pos ⟨HCK.out, hin⟩]; rfl)
      have HIK := hid hin
      have hq : inR k 0 ((fs1.length : Int) - 1) = true := by simp [inR]; omega
      rw [hq] at HIN
      have hlf2 : fs1.length ≤ 8 := prog_len (check_ok HCK.out).1
      clear hq hin hlf
      go_enter Tryz.func17, Tryz.ntmps17
      go_wp2_with fail
      refine HC.out.mono ?_
      rintro e w1 ⟨rfl, hb⟩
      have HB1 := hid (HB.out.trans (hb.mono HB.out.size))
      have HX1 := hid (heap_liftu HX.out hb)
      have HW1 := hid (show w.heap.size < w1.heap.size from (Array.getElem?_eq_some_iff.1 HX1.out).1)
      have e0 := heap_cell HX1.out (j := 0) rfl
      have e1 := heap_cell HX1.out (j := 1) rfl
      have HO1 := hid (own_one w1 k)
      have hba : Below w1.heap.size w1 (w1.alloc (.cells #[.int .i64 k] 2)) := (Below.refl _ _).alloc (Nat.le_refl _) _
      have HBA := hid hba
      clear hb hba
      go_wp2_with fail
      refine (HIN.out _).mono ?_
      rintro e w2 ⟨rfl, rfl⟩
      go_wp2_with fail
      go_loopw [5, 6] (fun u i wr => ∃ (j : Nat) (v0 : Value) (zs : List Int), j ≤ fs1.length ∧ i = .int .i64 j ∧ v0 = u ∧ Hid (wr.ownsRow w1.heap.size 2 1 v0 zs.length (zs.map (Value.int .i64))) ∧ Hid (roundsR fs1 (fs1.length - j) zs = roundsR fs1 fs1.length [k]) ∧ Hid (GoodI fs1 zs) ∧ Hid (Below w1.heap.size w1 wr)) (fun _ i _ => fs1.length - (intOf i).toNat)
      case atStart => exact ⟨0, _, [k], by omega, rfl, rfl, HO1, hid rfl, hid ⟨by simp, fun x hx => by simp at hx; subst hx; exact HIK.out⟩, HBA⟩
      case round =>
        obtain ⟨j, v0, zs, hj, rfl, rfl, HO, HRD, HG, HB2⟩ := hrel
        obtain ⟨wo, hwo⟩ : ∃ wo, wo = wr := ⟨_, rfl⟩
        subst hwo
        have HXR := hid (heap_liftu HX1.out HB2.out)
        have HBR := hid (HB1.out.trans (HB2.out.mono (Nat.le_of_lt HW1.out)))
        have e1 := heap_cell HXR.out (j := 1) rfl
        by_cases hlt : j < fs1.length
        case neg =>
          have HP := hid (show GivesIns (reachN (.mk ds1 fs1) k) w (.returned v0) wo by
            have h := HRD.out
            rw [show fs1.length - j = 0 by omega] at h
            have h' : zs = roundsR fs1 fs1.length [k] := h
            rw [HE.out, ← h']
            obtain ⟨a, c, hv, -⟩ := (own_RdL HO.out (HG.out.rng hlf2)).eIn
            subst hv
            exact ⟨a, c, rfl, ownsRow_ints (ownsRow_monoI HO.out (Nat.le_of_lt HW1.out)) (HG.out.rng hlf2), HBR.out⟩)
          go_wp2_with fail
          go_ret
          exact HP.out
        case pos =>
          have HNX := hid (show roundsR fs1 (fs1.length - (j + 1)) (roundR fs1 zs) = roundsR fs1 fs1.length [k] by have h := HRD.out; rw [show fs1.length - j = (fs1.length - (j + 1)) + 1 by omega] at h; exact h)
          have hzl : zs.length ≤ 8 := Nat.le_trans HG.out.len hlf2
          have HOW := hid (spec_OwnI zs v0 wo (by omega) (own_RdL HO.out (HG.out.rng hlf2)))
          obtain ⟨a0, c0, hv0, -⟩ := (own_RdL HO.out (HG.out.rng hlf2)).eIn
          subst hv0
          go_wp2_with fail
          refine HOW.out.mono ?_
          rintro e wn ⟨vn, rfl, hon, hbn⟩
          have HOX := hid (ownsRow.below HO.out hbn)
          have HBN := hid (HB2.out.trans (hbn.mono HB2.out.size))
          obtain ⟨_, _, e, hn2, hn3, hn4⟩ := (own_RdL hon (HG.out.rng hlf2)).eIn
          subst e
          have HN4 := hid hn4
          clear e1 hon hbn hn4 hn2 hn3
          go_wp2_with fail
          go_loopw [5, 8] (fun u i W => ∃ (q : Nat) (v1 : Value) (ys : List Int), q ≤ zs.length ∧ i = .int .i64 q ∧ v1 = u ∧ Hid (W.ownsRow w1.heap.size 2 1 v1 ys.length (ys.map (Value.int .i64))) ∧ Hid (stepR fs1 ys (zs.drop q) = roundR fs1 zs) ∧ Hid (GoodI fs1 ys) ∧ Hid (Below wn.heap.size wn W)) (fun _ i _ => zs.length - (intOf i).toNat)
          case atStart => exact ⟨0, _, zs, by omega, rfl, rfl, HOX, hid rfl, HG, hid (Below.refl _ _)⟩
          case round =>
            obtain ⟨q, v1, ys, hq, rfl, rfl, HOY, HST, HGY, HBY⟩ := hrel
            obtain ⟨W2, hW2⟩ : ∃ W2, W2 = wr := ⟨_, rfl⟩
            subst hW2
            have HBQ := hid (HBN.out.trans (HBY.out.mono HBN.out.size))
            have HXQ := hid (heap_liftu HX1.out HBQ.out)
            have HBWQ := hid (HB1.out.trans (HBQ.out.mono (Nat.le_of_lt HW1.out)))
            by_cases hqz : q < zs.length
            case neg =>
              have HQE := hid (show ys = roundR fs1 zs by have h := HST.out; rw [List.drop_eq_nil_of_le (by omega)] at h; exact h)
              go_wp2_with fail
              go_roundw
              case rel => exact ⟨j + 1, v1, ys, by omega, by go_num, rfl, HOY, hid (by rw [HQE.out]; exact HNX.out), HGY, HBQ⟩
              case measure => simp [intOf]; omega
            case pos =>
              obtain ⟨bn, on, rfl, hbnl, halln⟩ := HN4.out (by omega)
              obtain ⟨x, hx⟩ : ∃ x, zs[q]? = some x := ⟨_, List.getElem?_eq_getElem hqz⟩
              have HDR := hid (drop_getI hx)
              have d0 := (HBY.out.cell (p := ⟨bn, on + q, none⟩) hbnl).trans (halln q x hx).1
              have hxin := HG.out.2 x (List.mem_of_getElem? hx)
              obtain ⟨kk, rfl⟩ : ∃ kk : Nat, x = (kk : Int) := ⟨x.toNat, by omega⟩
              have hkl : kk < fs1.length := by omega
              obtain ⟨t, ht⟩ : ∃ t, fs1[kk]? = some t := ⟨_, List.getElem?_eq_getElem hkl⟩
              obtain ⟨n3, ⟨tk3, tn3, tks3⟩, ⟨bk3, bu3, bn3, ⟨btk3, btn3, btks3⟩, bns3, bks3⟩⟩ := t
              have hue : usedAt fs1 (kk : Int) = usedOf fs1 (Tm.mk bk3 bu3 bn3 (Ty.mk btk3 btn3 btks3) bns3 bks3) := by rw [usedAt, Int.toNat_natCast, ht]; rfl
              have hus := spec_Used ds1 fs1 ads1 cds1 afs1 cfs1 kk n3 tk3 tn3 tks3 bk3 bu3 bn3 btk3 btn3 btks3 bns3 bks3 w.heap.size 0 W2 HM.out ht HCK.out (heap_cell HXQ.out (j := 1) rfl) (HR.out.below HBWQ.out)
              rw [← hue] at hus
              have HUG := hid (used_good HCK.out hxin)
              have HS2 := hid (show stepR fs1 (putAll ys (usedAt fs1 (kk : Int))) (zs.drop (q + 1)) = roundR fs1 zs by have h := HST.out; rw [HDR.out, stepR_cons] at h; exact h)
              generalize usedAt fs1 (kk : Int) = us at hus HUG HS2
              have HUS := hid hus
              have hul : us.length ≤ 8 := Nat.le_trans HUG.out.len hlf2
              clear hus hue ht hx halln HN4 hxin HDR HST
              go_wp2_with fail
              refine HUS.out.mono ?_
              rintro e wu ⟨vu, rfl, hou, hbu⟩
              have HOZ := hid (ownsRow.below HOY.out hbu)
              have HBU := hid (HBY.out.trans (hbu.mono HBY.out.size))
              obtain ⟨_, _, e, hu2, hu3, hu4⟩ := (own_RdL hou (HUG.out.rng hlf2)).eIn
              subst e
              have HU4 := hid hu4
              clear hou hbu hu4 hu2 hu3 d0
              go_wp2_with fail
              go_loopw [5, 10] (fun u i W => ∃ (p : Nat) (v2 : Value) (xs : List Int), p ≤ us.length ∧ i = .int .i64 p ∧ v2 = u ∧ Hid (W.ownsRow w1.heap.size 2 1 v2 xs.length (xs.map (Value.int .i64))) ∧ Hid (putAll xs (us.drop p) = putAll ys us) ∧ Hid (GoodI fs1 xs) ∧ Hid (Below wu.heap.size wu W)) (fun _ i _ => us.length - (intOf i).toNat)
              case atStart => exact ⟨0, _, ys, by omega, rfl, rfl, HOZ, hid rfl, HGY, hid (Below.refl _ _)⟩
              case round =>
                obtain ⟨p, v2, xs, hp, rfl, rfl, HOW2, HPU, HGX, HBX⟩ := hrel
                obtain ⟨W3, hW3⟩ : ∃ W3, W3 = wr := ⟨_, rfl⟩
                subst hW3
                by_cases hpz : p < us.length
                case neg =>
                  have HQE := hid (show xs = putAll ys us by have h := HPU.out; rw [List.drop_eq_nil_of_le (by omega)] at h; exact h)
                  go_wp2_with fail
                  go_roundw
                  case rel => exact ⟨q + 1, v2, xs, by omega, by go_num, rfl, HOW2, hid (by rw [HQE.out]; exact HS2.out), HGX, hid (HBU.out.trans (HBX.out.mono HBU.out.size))⟩
                  case measure => simp [intOf]; omega
                case pos =>
                  obtain ⟨bu, ou, rfl, hbul, hallu⟩ := HU4.out (by omega)
                  obtain ⟨u, hu⟩ : ∃ u, us[p]? = some u := ⟨_, List.getElem?_eq_getElem hpz⟩
                  have d0 := (HBX.out.cell (p := ⟨bu, ou + p, none⟩) hbul).trans (hallu p u hu).1
                  have HPN := hid (show putAll (putI u xs) (us.drop (p + 1)) = putAll ys us by have h := HPU.out; rw [drop_getI hu] at h; exact h)
                  have HGN := hid (HGX.out.put (HUG.out.2 u (List.mem_of_getElem? hu)))
                  have hrd := own_RdL HOW2.out (HGX.out.rng hlf2)
                  obtain ⟨av, cv, hv, -⟩ := hrd.eIn
                  subst hv
                  have HPT := hid (spec_Put xs u av cv W3 (by have := HGX.out.len; omega) hrd)
                  have HSZ := hid (show w1.heap.size ≤ W3.heap.size by have h1 := HBN.out.size; have h2 := HBU.out.size; have h3 := HBX.out.size; omega)
                  clear hallu HU4 hu hrd HPU
                  go_wp2_with fail
                  refine HPT.out.mono ?_
                  rintro e W4 ⟨v4, rfl, ho4, hb4⟩
                  have HO4 := hid (ownsRow_monoI ho4 HSZ.out)
                  have HB4 := hid (HBX.out.trans (hb4.mono HBX.out.size))
                  clear ho4 hb4 d0
                  go_wp2_with fail
                  go_roundw
                  case rel => exact ⟨p + 1, v4, putI u xs, by omega, by go_num, rfl, HO4, HPN, HGN, HB4⟩
                  case measure => simp [intOf]; omega
end Go.Proofs.YtgpefnlpbjnjbaaGreat

namespace Go.Proofs.YtgpefnlpbjnjbaaGreat
open Go.ChangeShapes Go.WideShapes Go.ChangeAt Go.RowKit Go.BigFrame
open Go.Sort (grow)
set_option linter.unusedVariables false

theorem wpList_append_intF {w : World} {ops : Array Oper} {rest : List Oper} {o : Oper} {a : Act} {Q : Exit → Act → World → Prop} (hgd : o.guard = none) (s x : Operand)
    (ho : o.op = .call { callee := .builtin .append, args := #[s, x], argTypes := #[27, 27] })
    (base : Nat) (v : Value) (zs : List Int) (n : Int) (ad : Addr) (hs : a.eval s = v) (hx : a.eval x = .slice (some ad) 1 1) (hown : w.ownsRow base 2 1 v zs.length (zs.map (Value.int .i64))) (hc : ∀ j u, [Value.int .i64 n][j]? = some u → w.cell? (ad.add j) = some u)
    (h63 : zs.length + 1 ≤ 4194304) (hbase : base ≤ w.heap.size)
    (hK : ∀ v' w', w'.ownsRow base 2 1 v' (zs ++ [n]).length ((zs ++ [n]).map (Value.int .i64)) → w.grownBy w' v.ownBlock → (∀ g, v'.ownBlock = some g → v.ownBlock = some g ∨ w.heap.size ≤ g) → wpList Tryz.prog ops Q rest (a.put o.dst v') w') : wpList Tryz.prog ops Q (o :: rest) a w := by
  obtain ⟨i0, hi, hz0, hz1, hz2⟩ := info_parts info64u
  refine wpList_append_lies w hgd s x _ ho base 2 i0 _ 1 8 Tryz.underlying27 hi hz0 hz1 hz2 rfl (by decide) v _ _ hs hown ad 1 1 [.int .i64 n] hx rfl hc (fun u hu => by simp at hu; subst hu; rfl) (by omega) (by simp only [maxLen]; omega) (by omega) hbase w.heap.size rfl (fun g cap w' h5 h6 h7 _ => hK _ w' (by simpa using h5) h6 fun g' hg' => ?_)
  simp only [Value.ownBlock, Option.some.injEq] at hg'
  subst hg'
  rcases h7 with h7 | h7
  · exact .inl h7
  · exact .inr (Nat.le_of_eq h7.symm)
theorem idxI (ns : List Int) (v : Value) (n : Int) (w : World) (hl : ns.length ≤ 1048577) (h : RdL w (In.ds ns) v) :
    Calls Tryz.prog 74 #[v, .int .i64 n] w fun e w' => ∃ r : Int, e = .returned (.int .i64 r) ∧ decide (0 ≤ r) = decide (n ∈ ns) ∧ w = w' := by
  obtain ⟨a, c, rfl, h2, h3, h4⟩ := h.eIn
  have H4 := hid h4
  clear h4 h
  go_enter Tryz.func74, Tryz.ntmps74
  go_wp2_with fail
  go_loopw [5, 8] (fun u i wr => ∃ k : Nat, k ≤ ns.length ∧ i = .int .i64 k ∧ Hid (∀ (j : Nat) t, j < k → ns[j]? = some t → t ≠ n) ∧ w = wr) (fun _ i _ => ns.length - (intOf i).toNat)
  case atStart => exact ⟨0, Nat.zero_le _, rfl, fun j t hj => absurd hj (by omega), rfl⟩
  case round =>
    obtain ⟨k, hk, rfl, HN, rfl⟩ := hrel
    by_cases hlt : k < ns.length
    · obtain ⟨b, o, rfl, hbl, hall⟩ := H4.out (by omega)
      obtain ⟨t, ht⟩ : ∃ t, ns[k]? = some t := ⟨_, List.getElem?_eq_getElem hlt⟩
      have hc := (hall k t ht).1
      have HT := hid ht
      clear ht hall H4
      by_cases he : n = t
      · have HM := hid (show decide (0 ≤ (k : Int)) = decide (n ∈ ns) by rw [decide_eq_true (show n ∈ ns from he ▸ List.mem_of_getElem? HT.out)]; exact decide_eq_true (by omega))
        have hg : (n == t) = true := by simp [he]
        clear he
        go_wp2_with fail
        go_ret
        exact ⟨_, rfl, HM.out, rfl⟩
      · have HE := hid he
        have hg : (n == t) = false := by simpa using he
        clear he
        go_wp2_with fail
        go_roundw
        case rel =>
          refine ⟨k + 1, by omega, by go_num, fun j u hj hu => ?_, by first | rfl | trivial⟩
          rcases Nat.lt_succ_iff_lt_or_eq.1 hj with hj' | rfl
          · exact HN.out j u hj' hu
          · have e : u = t := Option.some.inj (hu.symm.trans HT.out)
            subst e
            exact fun e => HE.out e.symm
        case measure => simp [intOf]; omega
    · have HM := hid (show decide (0 ≤ (-1 : Int)) = decide (n ∈ ns) by
        rw [decide_eq_false (show ¬ n ∈ ns from fun hm => by obtain ⟨j, hj⟩ := List.mem_iff_getElem?.1 hm; exact HN.out j n (by have := (List.getElem?_eq_some_iff.1 hj).1; omega) hj rfl)]; decide)
      go_wp2_with fail
      go_ret
      exact ⟨_, rfl, HM.out, rfl⟩
theorem hasI (ns : List Int) (v : Value) (n : Int) (w : World) (hl : ns.length ≤ 1048577) (h : RdL w (In.ds ns) v) :
    Calls Tryz.prog 40 #[v, .int .i64 n] w fun e w' => e = .returned (.bool (decide (n ∈ ns))) ∧ w = w' := by
  have HC := hid (idxI ns v n w hl h)
  obtain ⟨a, c, rfl, -⟩ := h.eIn
  generalize decide (n ∈ ns) = bb at HC ⊢
  clear h hl
  go_enter Tryz.func40, Tryz.ntmps40
  go_wp2_with fail
  refine HC.out.mono ?_
  rintro e w1 ⟨r, rfl, hr, rfl⟩
  have HR := hid hr
  clear hr
  go_wp2_with fail
  go_ret
  exact ⟨ret_bool HR.out, rfl⟩
/-- A list lies apart from the block of another. -/
def KeptI (W : World) (v : Value) (us : List Int) (au : Option Addr) : Prop := 0 < us.length → ∃ b o, au = some ⟨b, o, none⟩ ∧ b < W.heap.size ∧ (∀ g, v.ownBlock = some g → g ≠ b) ∧ ∀ (p : Nat) x, us[p]? = some x → W.cell? ⟨b, o + p, none⟩ = some (.int .i64 x)
theorem KeptI.below {W W' : World} {v : Value} {us : List Int} {au : Option Addr} (h : KeptI W v us au) (hb : Below W.heap.size W W') : KeptI W' v us au := fun hp => by
  obtain ⟨b, o, e, h1, h2, h3⟩ := h hp
  exact ⟨b, o, e, Nat.lt_of_lt_of_le h1 hb.size, h2, fun p x hx => (hb.cell (p := ⟨b, o + p, none⟩) h1).trans (h3 p x hx)⟩
theorem KeptI.grown {W W' : World} {v v' : Value} {us : List Int} {au : Option Addr} (h : KeptI W v us au) (hg : W.grownBy W' v.ownBlock) (hs : W.heap.size ≤ W'.heap.size) (hv : ∀ g, v'.ownBlock = some g → v.ownBlock = some g ∨ W.heap.size ≤ g) : KeptI W' v' us au := fun hp => by
  obtain ⟨b, o, e, h1, h2, h3⟩ := h hp
  refine ⟨b, o, e, Nat.lt_of_lt_of_le h1 hs, fun g hg' e' => ?_, fun p x hx => hg.cell (h3 p x hx) fun e' => h2 b e'.symm rfl⟩
  subst e'
  rcases hv g hg' with h | h
  · exact h2 g h rfl
  · omega
theorem KeptI.start {W W' : World} {v : Value} {B n : Nat} {xs : List Value} {us : List Int} {au : Option Addr} {cu : Nat} (ho : W.ownsRow B 2 1 v n xs) (hu : W'.ownsRow W.heap.size 2 1 (.slice au us.length cu) us.length (us.map (Value.int .i64))) (hL : ∀ x ∈ us, -9223372036854775808 ≤ x ∧ x ≤ 9223372036854775807) : KeptI W' v us au := fun hp => by
  obtain ⟨_, _, e, _, _, h4⟩ := (own_RdL hu hL).eIn
  simp only [Value.slice.injEq, true_and] at e
  obtain ⟨rfl, rfl⟩ := e
  obtain ⟨b, o, rfl, hb, hall⟩ := h4 hp
  exact ⟨b, o, rfl, hb, fun g hg e' => by have h1 := (ho.lt g hg).2; have h2 := (hu.lt b rfl).1; omega, fun p x hx => (hall p x hx).1⟩
set_option maxRecDepth 100000 in
set_option maxHeartbeats 4000000 in
theorem impl_ReachableDefs (ds1 : List Dat) (fs1 : List Df) (ads1 : Option Addr) (cds1 : Nat) (afs1 : Option Addr) (cfs1 : Nat) (k : Int) (w : World) (hM : Pg.bulk (Pg.mk ds1 fs1) ≤ 1048576) (hr : RdS w (Pg.d (Pg.mk ds1 fs1)) [.slice ads1 ds1.length cds1, .slice afs1 fs1.length cfs1]) :
    Calls Tryz.prog 18 #[.agg #[.slice ads1 ds1.length cds1, .slice afs1 fs1.length cfs1], .int .i64 k] w (GivesIns (reachN (.mk ds1 fs1) k) w) := by
  have hB := (Below.refl w.heap.size w).alloc (Nat.le_refl _) (.cells #[.slice ads1 ds1.length cds1, .slice afs1 fs1.length cfs1] 32)
  have hx := heap_alloc_new w (.cells #[.slice ads1 ds1.length cds1, .slice afs1 fs1.length cfs1] 32)
  have HX := hid hx
  have HB := hid hB
  have e0 := heap_cell hx (j := 0) rfl
  have e1 := heap_cell hx (j := 1) rfl
  have HC := hid (impl_CheckNames ds1 fs1 ads1 cds1 afs1 cfs1 _ hM (hr.below hB))
  have HR := hid hr
  have HM := hid hM
  clear hx hB hr hM
  by_cases hck : checkN (.mk ds1 fs1) = 0
  case neg =>
    have HE := hid (show reachN (.mk ds1 fs1) k = [] by rw [reachN, if_neg (fun h => hck h.1)])
    generalize checkN (.mk ds1 fs1) = r at HC hck
    have hg : (r != 0) = true := by simp [hck]
    clear hck
    go_enter Tryz.func18, Tryz.ntmps18
    go_wp2_with fail
    refine HC.out.mono ?_
    rintro e w1 ⟨rfl, hb⟩
    have HB1 := hid (HB.out.trans (hb.mono HB.out.size))
    clear hb e0 e1
    go_wp2_with fail
    go_ret
    rw [HE.out]
    exact GivesIns_none _ HB1.out
  case pos =>
    have HCK := hid hck
    rw [hck] at HC
    have HHD := hid (fun V => impl_hasDef ds1 fs1 ads1 cds1 afs1 cfs1 k V)
    clear hck
    by_cases hin : 0 ≤ k ∧ k < fs1.length
    case neg =>
      have HE := hid (show reachN (.mk ds1 fs1) k = [] by rw [reachN, if_neg (fun h => hin h.2)])
      have hq : (decide (0 ≤ k) && decide (k < (fs1.length : Int))) = false := by rw [← Bool.decide_and]; exact decide_eq_false hin
      rw [hq] at HHD
      clear hq hin
      go_enter Tryz.func18, Tryz.ntmps18
      go_wp2_with fail
      refine HC.out.mono ?_
      rintro e w1 ⟨rfl, hb⟩
      have HB1 := hid (HB.out.trans (hb.mono HB.out.size))
      have HX1 := hid (heap_liftu HX.out hb)
      clear hb e0 e1
      have f0 := heap_cell HX1.out (j := 0) rfl
      have f1 := heap_cell HX1.out (j := 1) rfl
      go_wp2_with fail
      refine (HHD.out _).mono ?_
      rintro e w2 ⟨rfl, hb⟩
      have HB2 := hid (HB1.out.trans (hb.mono HB1.out.size))
      clear hb f0 f1
      go_wp2_with fail
      go_ret
      rw [HE.out]
      exact GivesIns_none _ HB2.out
    case pos =>
      have HE := hid (show reachN (.mk ds1 fs1) k = reachOf fs1 k by rw [reachN, if_pos ⟨HCK.out, hin⟩])
      have HIK := hid hin
      have hlf2 : fs1.length ≤ 8 := prog_len (check_ok HCK.out).1
      have hq : (decide (0 ≤ k) && decide (k < (fs1.length : Int))) = true := by rw [← Bool.decide_and]; exact decide_eq_true hin
      rw [hq] at HHD
      have HF := hid (used_in HCK.out)
      clear hq hin
      go_enter Tryz.func18, Tryz.ntmps18
      go_wp2_with fail
      refine HC.out.mono ?_
      rintro e w1 ⟨rfl, hb⟩
      have HB1 := hid (HB.out.trans (hb.mono HB.out.size))
      have HX1 := hid (heap_liftu HX.out hb)
      clear hb e0 e1
      have f0 := heap_cell HX1.out (j := 0) rfl
      have f1 := heap_cell HX1.out (j := 1) rfl
      go_wp2_with fail
      refine (HHD.out _).mono ?_
      rintro e w2 ⟨rfl, hb⟩
      have HB2 := hid (HB1.out.trans (hb.mono HB1.out.size))
      have HX2 := hid (heap_liftu HX1.out hb)
      have HW2 := hid (show w.heap.size < w2.heap.size from (Array.getElem?_eq_some_iff.1 HX2.out).1)
      have HO1 := hid (own_one w2 k)
      have hba : Below w2.heap.size w2 (w2.alloc (.cells #[.int .i64 k] 2)) := (Below.refl _ _).alloc (Nat.le_refl _) _
      have HBA := hid hba
      clear hb f0 f1 hba
      go_wp2_with fail
      go_loopw [5, 6] (fun u i wr => ∃ (j : Nat) (v0 : Value) (zs : List Int), j ≤ zs.length ∧ zs.length ≤ 8 ∧ i = .int .i64 j ∧ v0 = u ∧ Hid (wr.ownsRow w2.heap.size 2 1 v0 zs.length (zs.map (Value.int .i64))) ∧ Hid (SearchR fs1 k j zs) ∧ Hid (Below w2.heap.size w2 wr)) (fun _ i _ => 9 - (intOf i).toNat)
      case atStart => exact ⟨0, _, [k], by omega, by simp, rfl, rfl, HO1, hid (SearchR.start HIK.out), HBA⟩
      case round =>
        obtain ⟨j, v0, zs, hj, hz8, rfl, rfl, HO, HS, HB3⟩ := hrel
        obtain ⟨wo, hwo⟩ : ∃ wo, wo = wr := ⟨_, rfl⟩
        subst hwo
        have HXR := hid (heap_liftu HX2.out HB3.out)
        have HBR := hid (HB2.out.trans (HB3.out.mono (Nat.le_of_lt HW2.out)))
        have hrng : ∀ x ∈ zs, -9223372036854775808 ≤ x ∧ x ≤ 9223372036854775807 := fun x hx => by have := HS.out.2.1 x hx; omega
        have HRG := hid hrng
        clear hrng
        obtain ⟨a0, c0, hv0, -, -, h4⟩ := (own_RdL HO.out HRG.out).eIn
        subst hv0
        have H4 := hid h4
        clear h4
        by_cases hlt : j < zs.length
        case neg =>
          have HSO := hid (sort_own HB3.out.size (by omega) HS.out.1 HO.out)
          have HDN := hid (show putAll [] zs = reachN (.mk ds1 fs1) k by rw [HE.out]; exact SearchR.done HF.out HIK.out HS.out (by omega))
          go_wp2_with fail
          refine HSO.out.mono ?_
          rintro e w3 ⟨rfl, ho3, hb3⟩
          have hG := GivesIns_new HB2.out (show NewI w2 (putAll [] zs) (.returned (.slice a0 zs.length c0)) w3 from ⟨_, rfl, ho3, HB3.out.trans hb3⟩) (fun x hx => by rcases putAll_mem _ _ x hx with h | h; exact HRG.out x h; simp at h)
          rw [HDN.out] at hG
          have HG := hid hG
          clear ho3 hb3 hG
          go_wp2_with fail
          go_ret
          exact HG.out
        case pos =>
          obtain ⟨bn, on, rfl, hbnl, halln⟩ := H4.out (by omega)
          obtain ⟨x, hx⟩ : ∃ x, zs[j]? = some x := ⟨_, List.getElem?_eq_getElem hlt⟩
          have z0 := (halln j x hx).1
          have hxin := HS.out.2.1 x (List.mem_of_getElem? hx)
          obtain ⟨kk, rfl⟩ : ∃ kk : Nat, x = (kk : Int) := ⟨x.toNat, by omega⟩
          have hkl : kk < fs1.length := by omega
          obtain ⟨t, ht⟩ : ∃ t, fs1[kk]? = some t := ⟨_, List.getElem?_eq_getElem hkl⟩
          obtain ⟨n3, ⟨tk3, tn3, tks3⟩, ⟨bk3, bu3, bn3, ⟨btk3, btn3, btks3⟩, bns3, bks3⟩⟩ := t
          have hue : usedAt fs1 (kk : Int) = usedOf fs1 (Tm.mk bk3 bu3 bn3 (Ty.mk btk3 btn3 btks3) bns3 bks3) := by rw [usedAt, Int.toNat_natCast, ht]; rfl
          have hus := fun V (hV : Below wo.heap.size wo V) => impl_Used ds1 fs1 ads1 cds1 afs1 cfs1 kk n3 tk3 tn3 tks3 bk3 bu3 bn3 btk3 btn3 btks3 bns3 bks3 V HM.out ht HCK.out ((HR.out.below HBR.out).below hV)
          rw [← hue] at hus
          have HUG := hid (used_good HCK.out hxin)
          have HXX := hid hx
          obtain ⟨us, hUE⟩ : ∃ us, us = usedAt fs1 (kk : Int) := ⟨_, rfl⟩
          have HUE := hid hUE
          rw [← hUE] at hus HUG
          have HUS := hid hus
          have hul : us.length ≤ 8 := Nat.le_trans HUG.out.len hlf2
          have g0 := heap_cell HXR.out (j := 0) rfl
          have g1 := heap_cell HXR.out (j := 1) rfl
          have hkeep : ∀ V, Below wo.heap.size wo V → (Below wo.heap.size wo V ∧ V.cell? ⟨w.heap.size, 0, none⟩ = some (.slice ads1 ds1.length cds1) ∧ V.cell? ⟨w.heap.size, 1, none⟩ = some (.slice afs1 fs1.length cfs1) ∧ V.cell? ⟨bn, on + j, none⟩ = some (.int .i64 (kk : Int))) := fun V hV => ⟨hV, (hV.cell (p := ⟨w.heap.size, 0, none⟩) (World.block_lt_of_cell? _ _ g0)).trans g0, (hV.cell (p := ⟨w.heap.size, 1, none⟩) (World.block_lt_of_cell? _ _ g1)).trans g1, (hV.cell (p := ⟨bn, on + j, none⟩) (World.block_lt_of_cell? _ _ z0)).trans z0⟩
          have KEEP := hid hkeep
          have hbd : Below wo.heap.size wo wo.drew := (Below.refl _ _).drew
          clear hus hue hUE ht hx halln H4 hxin hkeep
          go_wp2_with fail
          go_region_held3 (fun V => (Below wo.heap.size wo V ∧ V.cell? ⟨w.heap.size, 0, none⟩ = some (.slice ads1 ds1.length cds1) ∧ V.cell? ⟨w.heap.size, 1, none⟩ = some (.slice afs1 fs1.length cfs1) ∧ V.cell? ⟨bn, on + j, none⟩ = some (.int .i64 (kk : Int))))
            (first | assumption | exact KEEP.out _ hbd | go_keep)
            ((go_at_call 27; (with_reducible refine (HUS.out _ hbd).mono ?_); rintro e W2 ⟨v2, rfl, hou, hb2⟩; obtain ⟨au, cu, hvu, -⟩ := (own_RdL hou (HUG.out.rng hlf2)).eIn; subst hvu; have HOU := hid hou; have hbd' := hbd.trans (hb2.mono hbd.size); clear hbd; have hbd := hbd'; clear hbd' hou hb2))
          have HBD := hid hbd
          have HOZ := hid (ownsRow.below HO.out hbd)
          have HKP := hid (KeptI.start HO.out (ownsRow_monoI HOU.out (B' := wo.heap.size) (Nat.le_refl _)) (HUG.out.rng hlf2))
          clear hbd g0 g1 z0 HOU KEEP
          go_wp2_with fail
          go_loopw [5, 8, 33] (fun u _ i W => ∃ (p : Nat) (v1 : Value) (ys : List Int), p ≤ us.length ∧ ys.length ≤ 8 ∧ i = .int .i64 p ∧ v1 = u ∧ Hid (W.ownsRow w2.heap.size 2 1 v1 ys.length (ys.map (Value.int .i64))) ∧ Hid (SearchU fs1 k j (us.take p) ys) ∧ Hid (ys[j]? = some (kk : Int)) ∧ Hid (KeptI W v1 us au) ∧ Hid (Below w2.heap.size w2 W)) (fun _ _ i _ => us.length - (intOf i).toNat)
          case atStart => exact ⟨0, _, zs, by omega, hz8, rfl, rfl, HOZ, hid ⟨HS.out, fun y hy => by simp at hy⟩, HXX, HKP, hid (HB3.out.trans (HBD.out.mono HB3.out.size))⟩
          case round =>
            obtain ⟨p, v1, ys, hp, hy8, rfl, rfl, HOY, HSU, HYX, HKY, HBY⟩ := hrel
            obtain ⟨wi, hwi⟩ : ∃ wi, wi = wr := ⟨_, rfl⟩
            subst hwi
            by_cases hpz : p < us.length
            case neg =>
              have HSN := hid (show SearchR fs1 k (j + 1) ys by have h := HSU.out; rw [List.take_of_length_le (by omega)] at h; exact h.next HYX.out HUE.out)
              have hjl : j + 1 ≤ ys.length := (List.getElem?_eq_some_iff.1 HYX.out).1
              go_wp2_with fail
              go_roundw
              case rel => exact ⟨j + 1, v1, ys, hjl, hy8, by go_num, rfl, HOY, HSN, HBY⟩
              case measure => simp [intOf]; omega
            case pos =>
              obtain ⟨bu, ou, rfl, hbul, hne, hallu⟩ := HKY.out (by omega)
              obtain ⟨u, hu⟩ : ∃ u, us[p]? = some u := ⟨_, List.getElem?_eq_getElem hpz⟩
              have d0 := hallu p u hu
              have HTK := hid (show us.take (p + 1) = us.take p ++ [u] by rw [List.take_add_one, hu]; rfl)
              have HUM := hid (show u ∈ usedAt fs1 (kk : Int) by rw [← HUE.out]; exact List.mem_of_getElem? hu)
              have hry : ∀ x ∈ ys, -9223372036854775808 ≤ x ∧ x ≤ 9223372036854775807 := fun x hx => by have := HSU.out.1.2.1 x hx; omega
              have hrd := own_RdL HOY.out hry
              obtain ⟨av, cv, hv, -⟩ := hrd.eIn
              subst hv
              have hh := hasI ys _ u wi (by omega) hrd
              clear hrd hry hallu hne hu
              by_cases hm : u ∈ ys
              case pos =>
                rw [decide_eq_true hm] at hh
                have HH := hid hh
                have HSN := hid (show SearchU fs1 k j (us.take (p + 1)) ys by rw [HTK.out]; exact HSU.out.old hm)
                clear hh hm
                go_wp2_with fail
                refine HH.out.mono ?_
                rintro e w4 ⟨rfl, rfl⟩
                go_wp2_with fail
                go_roundw
                case rel => exact ⟨p + 1, _, ys, by omega, hy8, by go_num, rfl, HOY, HSN, HYX, HKY, HBY⟩
                case measure => simp [intOf]; omega
              case neg =>
                rw [decide_eq_false hm] at hh
                have HH := hid hh
                have HSN := hid (show SearchU fs1 k j (us.take (p + 1)) (ys ++ [u]) by rw [HTK.out]; exact HSU.out.new HF.out HYX.out HUM.out hm)
                have HLN := hid (show (ys ++ [u]).length ≤ 8 from Nat.le_trans HSN.out.1.len hlf2)
                have HYN := hid (SearchU.get (u := u) HYX.out)
                clear hh hm
                go_wp2_with fail
                refine HH.out.mono ?_
                rintro e w4 ⟨rfl, rfl⟩
                go_wp2_with (at_builtin; refine wpList_append_intF rfl _ _ rfl w2.heap.size _ ys u ⟨wi.heap.size, 0, none⟩ rfl rfl (HOY.out.alloc _) (one_new _ _ _) ?c1 ?c2 ?_)
                case c1 => omega
                case c2 => have := HBY.out.size; simp; omega
                intro v5 w5 ho5 hg5 hv5
                have HO5 := hid (show w5.ownsRow w2.heap.size 2 1 v5 (ys ++ [u]).length ((ys ++ [u]).map (Value.int .i64)) by simpa using ho5)
                have HB5 := hid (own_nextI (HBY.out.alloc HBY.out.size _) (by have := HBY.out.size; simp; omega) (HOY.out.alloc _) hg5)
                have HK5 := hid (KeptI.grown (HKY.out.below ((Below.refl _ _).alloc (Nat.le_refl _) (.cells #[.int .i64 u] 2))) hg5 hg5.4 (by simpa using hv5))
                clear ho5 hg5 hv5 d0
                go_wp2_with fail
                go_roundw
                case rel => exact ⟨p + 1, v5, ys ++ [u], by omega, HLN.out, by go_num, rfl, HO5, HSN, HYN, HK5, HB5⟩
                case measure => simp [intOf]; omega
end Go.Proofs.YtgpefnlpbjnjbaaGreat

namespace Go.Proofs.YtgpefnlpbjnjbaaGreat
open Go.ChangeShapes Go.WideShapes Go.ChangeAt Go.RowKit
set_option linter.unusedVariables false

theorem lens_Con : ∀ ts : List Con, D.lens (Con.ds ts) = ts.length * 2
  | [] => rfl
  | t :: ts => by simp [Con.ds, D.lens, Con.d_len, lens_Con ts]; omega
set_option maxRecDepth 100000 in
set_option maxHeartbeats 4000000 in
theorem markCons (ts : List Con) (a : Option Addr) (c : Nat) (F : List Nat) (k : Nat) (w : World) (hlen : ts.length ≤ 9223372036854775807) (hk : k + D.nums (Con.ds ts) ≤ 1099511627776) (hr : Rd w (.list (Con.ds ts)) [.slice a ts.length c] F) (ho : Owned w 0 F) :
    Calls Tryz.prog 57 #[.slice a ts.length c, .int .i64 k] w (MkPost w (.slice a ts.length c) F k (Con.ds ts)) := by
  have hdl := Con.ds_length ts
  by_cases hne : ts = []
  case pos =>
    have HP := hid (show MkPost w (.slice a ts.length c) F k (Con.ds ts) (.returned (.int .i64 k)) w by
      subst hne
      exact ⟨by simp [Con.ds, D.nums], by simpa [Con.ds, D.marks] using hr, Mk.refl _ _⟩)
    have hz : ts.length = 0 := by rw [hne]; rfl
    clear hr ho hk hdl hne
    go_enter Tryz.func57, Tryz.ntmps57
    go_wp2_with fail
    go_loopw [1, 5] (fun q i wr => ∃ (j : Nat), j = 0 ∧ i = .int .i64 j ∧ q = .int .i64 k ∧ w = wr) (fun _ i _ => 0)
    case atStart => exact ⟨0, rfl, rfl, rfl, rfl⟩
    case round =>
      obtain ⟨j, hj, rfl, rfl, rfl⟩ := hrel
      have hlt : ¬ j < ts.length := by omega
      go_wp2_with fail
      go_ret
      exact HP.out
  case neg =>
  have hdne : Con.ds ts ≠ [] := fun e => hne (List.length_eq_zero_iff.1 (by rw [← hdl, e]; rfl))
  obtain ⟨a', cap', e, h2, h3, h4⟩ := hr.list_inv
  simp only [List.cons.injEq, Value.slice.injEq, and_true] at e
  obtain ⟨rfl, -, rfl⟩ := e
  rcases h4 with ⟨h, _⟩ | ⟨b, o, xs, F', _, rfl, rfl, hbl, hx, hr'⟩
  · exact absurd h hdne
  have HRW := hid (RowMk.start (k := k) hx hr' ho)
  have HDN := hid (fun p W (h : RowMk k (D.flats (Con.ds ts)) F' b o p W) (hp : p = (D.flats (Con.ds ts)).length) => h.done hp hdl.symm hdne (by omega) h3)
  have HFL := hid (show (D.flats (Con.ds ts)).length = ts.length * 2 by rw [D.flats_length]; exact lens_Con ts)
  have HNU := hid (D.flats_num (Con.ds ts))
  have HLL := hid (D.flats_leaf (Con.ds ts))
  have HGT := hid (fun j i d x h1 h2 => D.flats_get (m := 2) (Con.ds ts) j i d x (Con.ds_len ts) h1 h2)
  have HGE := hid (Con.ds_get ts)
  generalize hL : D.flats (Con.ds ts) = L at HRW HDN HFL HNU HLL HGT
  have HK := hid hk
  have HNE := hid hne
  clear hr ho hk hdl hne hdne hx hr' hL h2 hbl
  go_enter Tryz.func57, Tryz.ntmps57
  go_wp2_with fail
  go_loopw [1, 5] (fun q i wr => ∃ (j kk : Nat), j ≤ ts.length ∧ i = .int .i64 j ∧ q = .int .i64 kk ∧ Hid (k + D.nums (L.take (j * 2)) = kk) ∧ Hid (RowMk k L F' b o (j * 2) wr) ∧ Hid (Mk (b :: F') w wr)) (fun _ i _ => ts.length - (intOf i).toNat)
  case atStart => exact ⟨0, k, by omega, rfl, rfl, by simp [D.nums, Hid], by simpa [Hid] using HRW.out, Mk.refl _ _⟩
  case round =>
    obtain ⟨j, kk, hj, rfl, rfl, HE0, HS0, HM0⟩ := hrel
    have hkk : kk ≤ 1099511627776 := by have h1 := HE0.out; have h2 := D.nums_take_le L (j * 2); have h3 := HNU.out; have h4 := HK.out; omega
    by_cases hlt : j < ts.length
    case neg =>
      have HP := hid (show MkPost w (.slice (some ⟨b, o, none⟩) ts.length c) (b :: F') k (Con.ds ts) (.returned (.int .i64 kk)) wr by
        obtain rfl : j = ts.length := by omega
        refine ⟨?_, HDN.out _ _ HS0.out HFL.out.symm, HM0.out⟩
        have h1 := HE0.out
        rw [← HFL.out, List.take_length, HNU.out] at h1
        rw [h1])
      go_wp2_with fail
      go_ret
      exact HP.out
    case pos =>
      obtain ⟨t, ht⟩ : ∃ t, ts[j]? = some t := ⟨_, List.getElem?_eq_getElem hlt⟩
      obtain ⟨n3, fs3⟩ := t
      have hL0 : L[j * 2]? = some (.str n3) := HGT.out j 0 (Con.d (Con.mk n3 fs3)) (.str n3) (by rw [HGE.out, ht]; rfl) (by simp [Con.d, D.flat, D.flats])
      have hL1 : L[j * 2 + 1]? = some (.list (Ty.ds fs3)) := HGT.out j 1 (Con.d (Con.mk n3 fs3)) (.list (Ty.ds fs3)) (by rw [HGE.out, ht]; rfl) (by simp [Con.d, D.flat, D.flats])
      have hT0 := fun W => mark_Text (kk) (by omega) W
      have HT0 := hid hT0
      clear hT0
      go_wp2_with fail
      refine (HT0.out _).mono ?_
      rintro e u0 ⟨rfl, hbb⟩
      have T0 := hid (HS0.out.below hbb)
      have N0 := hid (HM0.out.trans (Mk.of_below hbb))
      clear hbb
      obtain ⟨v0, G0, c0, z0, r0⟩ := T0.out.peek HLL.out (j * 2) (by omega) hL0
      have c0' : u0.cell? ⟨b, o + j * 2, none⟩ = some v0 := c0
      have z0' : u0.frozen? ⟨b, o + j * 2, none⟩ = false := z0
      have hv0 : ∀ W, Rd W (D.mark (k + D.nums (L.take (j * 2))) (.str n3)) [.string (mtxt (kk))] [] := fun W => by rw [HE0.out]; have := Rd.str_mk (w := W) (s := mtxt (kk)) (by have := mtxt_size (kk); omega); simpa [D.mark] using this
      have S1 : Hid (RowMk k L F' b o (j * 2 + 1) _) := hid ((T0.out.scalar HLL.out hL0 Rd.str_sc).2.2 _ hv0)
      have M1 := hid (N0.out.trans (Mk.set (o := o + (j * 2)) (.string (mtxt (kk))) (List.mem_cons_self)))
      have E1 := hid (show k + D.nums (L.take (j * 2 + 1)) = kk + 1 by have h1 : D.nums (L.take (j * 2 + 1)) = _ := D.nums_take L _ _ hL0; have h2 := HE0.out; have h3 : D.num (.str n3) = 1 := rfl; omega)
      have hb1 : kk + 1 ≤ 1099511627776 := by have h1 := E1.out; have h2 := D.nums_take_le L (j * 2 + 1); have h3 := HNU.out; have h4 := HK.out; omega
      obtain ⟨y1, G1', c1'', r1', o1', s1', set1⟩ := S1.out.list HLL.out hL1
      obtain ⟨a1, n1, ee1, h21, h31, -⟩ := r1'.list_inv
      simp only [List.cons.injEq, and_true, Ty.ds_length] at ee1 h21
      obtain rfl := ee1
      have c1' : u0.cell? ⟨b, o + j * 2 + 1, none⟩ = some (.slice a1 fs3.length n1) := by have h := c1''; rw [cell_set_ne (by omega)] at h; exact h
      obtain ⟨kx1, hkx1⟩ : ∃ kx, kx = kk + 1 + D.nums (Ty.ds fs3) := ⟨_, rfl⟩
      have E2 := hid (show k + D.nums (L.take (j * 2 + 2)) = kx1 by have h1 : D.nums (L.take (j * 2 + 2)) = _ := D.nums_take L _ _ hL1; have h2 := E1.out; have h3 : D.num (.list (Ty.ds fs3)) = D.nums (Ty.ds fs3) := (by rw [D.num]); omega)
      have hb2 : kx1 ≤ 1099511627776 := by have h1 := E2.out; have h2 := D.nums_take_le L (j * 2 + 2); have h3 := HNU.out; have h4 := HK.out; omega
      have hc1 := markTys fs3 a1 n1 G1' (kk + 1) _ (by omega) (by omega) r1' o1'
      unfold MkPost at hc1
      rw [← hkx1] at hc1
      rw [show ((kk + 1 : Nat) : Int) = (kk : Int) + 1 from by omega] at hc1
      have HKX1 := hid hkx1
      clear hkx1
      have HC1 := hid hc1
      have HST1 := hid set1
      rw [E1.out] at HST1
      have HSU1 := hid s1'
      clear hc1 set1 s1' r1' o1' c1''
      go_wp2_with fail
      refine HC1.out.mono ?_
      rintro e u1 ⟨rfl, hrd, hmk⟩
      have S2 : Hid (RowMk k L F' b o (j * 2 + 2) _) := hid (HST1.out _ hmk hrd)
      have M2 := hid (M1.out.trans (hmk.mono fun x hx => List.mem_cons_of_mem _ (HSU1.out x hx)))
      clear hmk hrd HC1 HST1 c0' z0' c1'
      go_wp2_with fail
      go_roundw
      case rel => exact ⟨j + 1, kx1, by omega, by go_num, by go_num, by rw [Nat.succ_mul]; exact E2, by rw [Nat.succ_mul]; exact S2, M2⟩
      case measure => simp [intOf]; omega
theorem Con.num_le : ∀ t : Con, D.num (Con.d t) ≤ 2 + 2 * Con.bulk t
  | .mk n fs => by
    have h_fs := Ty.nums_le fs
    simp only [Con.d, D.num, D.nums, Con.bulk] at *
    omega
theorem Con.nums_le : ∀ ts : List Con, D.nums (Con.ds ts) ≤ 2 * Con.bulks ts
  | [] => by simp [Con.ds, D.nums]
  | t :: ts => by have h1 := Con.num_le t; have h2 := Con.nums_le ts; simp only [Con.ds, D.nums, Con.bulks]; omega
end Go.Proofs.YtgpefnlpbjnjbaaGreat

namespace Go.Proofs.YtgpefnlpbjnjbaaGreat
open Go.ChangeShapes Go.WideShapes Go.ChangeAt Go.RowKit
set_option linter.unusedVariables false

theorem lens_Dat : ∀ ts : List Dat, D.lens (Dat.ds ts) = ts.length * 2
  | [] => rfl
  | t :: ts => by simp [Dat.ds, D.lens, Dat.d_len, lens_Dat ts]; omega
set_option maxRecDepth 100000 in
set_option maxHeartbeats 4000000 in
theorem markDats (ts : List Dat) (a : Option Addr) (c : Nat) (F : List Nat) (k : Nat) (w : World) (hlen : ts.length ≤ 9223372036854775807) (hk : k + D.nums (Dat.ds ts) ≤ 1099511627776) (hr : Rd w (.list (Dat.ds ts)) [.slice a ts.length c] F) (ho : Owned w 0 F) :
    Calls Tryz.prog 30 #[.slice a ts.length c, .int .i64 k] w (MkPost w (.slice a ts.length c) F k (Dat.ds ts)) := by
  have hdl := Dat.ds_length ts
  by_cases hne : ts = []
  case pos =>
    have HP := hid (show MkPost w (.slice a ts.length c) F k (Dat.ds ts) (.returned (.int .i64 k)) w by
      subst hne
      exact ⟨by simp [Dat.ds, D.nums], by simpa [Dat.ds, D.marks] using hr, Mk.refl _ _⟩)
    have hz : ts.length = 0 := by rw [hne]; rfl
    clear hr ho hk hdl hne
    go_enter Tryz.func30, Tryz.ntmps30
    go_wp2_with fail
    go_loopw [1, 5] (fun q i wr => ∃ (j : Nat), j = 0 ∧ i = .int .i64 j ∧ q = .int .i64 k ∧ w = wr) (fun _ i _ => 0)
    case atStart => exact ⟨0, rfl, rfl, rfl, rfl⟩
    case round =>
      obtain ⟨j, hj, rfl, rfl, rfl⟩ := hrel
      have hlt : ¬ j < ts.length := by omega
      go_wp2_with fail
      go_ret
      exact HP.out
  case neg =>
  have hdne : Dat.ds ts ≠ [] := fun e => hne (List.length_eq_zero_iff.1 (by rw [← hdl, e]; rfl))
  obtain ⟨a', cap', e, h2, h3, h4⟩ := hr.list_inv
  simp only [List.cons.injEq, Value.slice.injEq, and_true] at e
  obtain ⟨rfl, -, rfl⟩ := e
  rcases h4 with ⟨h, _⟩ | ⟨b, o, xs, F', _, rfl, rfl, hbl, hx, hr'⟩
  · exact absurd h hdne
  have HRW := hid (RowMk.start (k := k) hx hr' ho)
  have HDN := hid (fun p W (h : RowMk k (D.flats (Dat.ds ts)) F' b o p W) (hp : p = (D.flats (Dat.ds ts)).length) => h.done hp hdl.symm hdne (by omega) h3)
  have HFL := hid (show (D.flats (Dat.ds ts)).length = ts.length * 2 by rw [D.flats_length]; exact lens_Dat ts)
  have HNU := hid (D.flats_num (Dat.ds ts))
  have HLL := hid (D.flats_leaf (Dat.ds ts))
  have HGT := hid (fun j i d x h1 h2 => D.flats_get (m := 2) (Dat.ds ts) j i d x (Dat.ds_len ts) h1 h2)
  have HGE := hid (Dat.ds_get ts)
  generalize hL : D.flats (Dat.ds ts) = L at HRW HDN HFL HNU HLL HGT
  have HK := hid hk
  have HNE := hid hne
  clear hr ho hk hdl hne hdne hx hr' hL h2 hbl
  go_enter Tryz.func30, Tryz.ntmps30
  go_wp2_with fail
  go_loopw [1, 5] (fun q i wr => ∃ (j kk : Nat), j ≤ ts.length ∧ i = .int .i64 j ∧ q = .int .i64 kk ∧ Hid (k + D.nums (L.take (j * 2)) = kk) ∧ Hid (RowMk k L F' b o (j * 2) wr) ∧ Hid (Mk (b :: F') w wr)) (fun _ i _ => ts.length - (intOf i).toNat)
  case atStart => exact ⟨0, k, by omega, rfl, rfl, by simp [D.nums, Hid], by simpa [Hid] using HRW.out, Mk.refl _ _⟩
  case round =>
    obtain ⟨j, kk, hj, rfl, rfl, HE0, HS0, HM0⟩ := hrel
    have hkk : kk ≤ 1099511627776 := by have h1 := HE0.out; have h2 := D.nums_take_le L (j * 2); have h3 := HNU.out; have h4 := HK.out; omega
    by_cases hlt : j < ts.length
    case neg =>
      have HP := hid (show MkPost w (.slice (some ⟨b, o, none⟩) ts.length c) (b :: F') k (Dat.ds ts) (.returned (.int .i64 kk)) wr by
        obtain rfl : j = ts.length := by omega
        refine ⟨?_, HDN.out _ _ HS0.out HFL.out.symm, HM0.out⟩
        have h1 := HE0.out
        rw [← HFL.out, List.take_length, HNU.out] at h1
        rw [h1])
      go_wp2_with fail
      go_ret
      exact HP.out
    case pos =>
      obtain ⟨t, ht⟩ : ∃ t, ts[j]? = some t := ⟨_, List.getElem?_eq_getElem hlt⟩
      obtain ⟨n3, qs3⟩ := t
      have hL0 : L[j * 2]? = some (.str n3) := HGT.out j 0 (Dat.d (Dat.mk n3 qs3)) (.str n3) (by rw [HGE.out, ht]; rfl) (by simp [Dat.d, D.flat, D.flats])
      have hL1 : L[j * 2 + 1]? = some (.list (Con.ds qs3)) := HGT.out j 1 (Dat.d (Dat.mk n3 qs3)) (.list (Con.ds qs3)) (by rw [HGE.out, ht]; rfl) (by simp [Dat.d, D.flat, D.flats])
      have hT0 := fun W => mark_Text (kk) (by omega) W
      have HT0 := hid hT0
      clear hT0
      go_wp2_with fail
      refine (HT0.out _).mono ?_
      rintro e u0 ⟨rfl, hbb⟩
      have T0 := hid (HS0.out.below hbb)
      have N0 := hid (HM0.out.trans (Mk.of_below hbb))
      clear hbb
      obtain ⟨v0, G0, c0, z0, r0⟩ := T0.out.peek HLL.out (j * 2) (by omega) hL0
      have c0' : u0.cell? ⟨b, o + j * 2, none⟩ = some v0 := c0
      have z0' : u0.frozen? ⟨b, o + j * 2, none⟩ = false := z0
      have hv0 : ∀ W, Rd W (D.mark (k + D.nums (L.take (j * 2))) (.str n3)) [.string (mtxt (kk))] [] := fun W => by rw [HE0.out]; have := Rd.str_mk (w := W) (s := mtxt (kk)) (by have := mtxt_size (kk); omega); simpa [D.mark] using this
      have S1 : Hid (RowMk k L F' b o (j * 2 + 1) _) := hid ((T0.out.scalar HLL.out hL0 Rd.str_sc).2.2 _ hv0)
      have M1 := hid (N0.out.trans (Mk.set (o := o + (j * 2)) (.string (mtxt (kk))) (List.mem_cons_self)))
      have E1 := hid (show k + D.nums (L.take (j * 2 + 1)) = kk + 1 by have h1 : D.nums (L.take (j * 2 + 1)) = _ := D.nums_take L _ _ hL0; have h2 := HE0.out; have h3 : D.num (.str n3) = 1 := rfl; omega)
      have hb1 : kk + 1 ≤ 1099511627776 := by have h1 := E1.out; have h2 := D.nums_take_le L (j * 2 + 1); have h3 := HNU.out; have h4 := HK.out; omega
      obtain ⟨y1, G1', c1'', r1', o1', s1', set1⟩ := S1.out.list HLL.out hL1
      obtain ⟨a1, n1, ee1, h21, h31, -⟩ := r1'.list_inv
      simp only [List.cons.injEq, and_true, Con.ds_length] at ee1 h21
      obtain rfl := ee1
      have c1' : u0.cell? ⟨b, o + j * 2 + 1, none⟩ = some (.slice a1 qs3.length n1) := by have h := c1''; rw [cell_set_ne (by omega)] at h; exact h
      obtain ⟨kx1, hkx1⟩ : ∃ kx, kx = kk + 1 + D.nums (Con.ds qs3) := ⟨_, rfl⟩
      have E2 := hid (show k + D.nums (L.take (j * 2 + 2)) = kx1 by have h1 : D.nums (L.take (j * 2 + 2)) = _ := D.nums_take L _ _ hL1; have h2 := E1.out; have h3 : D.num (.list (Con.ds qs3)) = D.nums (Con.ds qs3) := (by rw [D.num]); omega)
      have hb2 : kx1 ≤ 1099511627776 := by have h1 := E2.out; have h2 := D.nums_take_le L (j * 2 + 2); have h3 := HNU.out; have h4 := HK.out; omega
      have hc1 := markCons qs3 a1 n1 G1' (kk + 1) _ (by omega) (by omega) r1' o1'
      unfold MkPost at hc1
      rw [← hkx1] at hc1
      rw [show ((kk + 1 : Nat) : Int) = (kk : Int) + 1 from by omega] at hc1
      have HKX1 := hid hkx1
      clear hkx1
      have HC1 := hid hc1
      have HST1 := hid set1
      rw [E1.out] at HST1
      have HSU1 := hid s1'
      clear hc1 set1 s1' r1' o1' c1''
      go_wp2_with fail
      refine HC1.out.mono ?_
      rintro e u1 ⟨rfl, hrd, hmk⟩
      have S2 : Hid (RowMk k L F' b o (j * 2 + 2) _) := hid (HST1.out _ hmk hrd)
      have M2 := hid (M1.out.trans (hmk.mono fun x hx => List.mem_cons_of_mem _ (HSU1.out x hx)))
      clear hmk hrd HC1 HST1 c0' z0' c1'
      go_wp2_with fail
      go_roundw
      case rel => exact ⟨j + 1, kx1, by omega, by go_num, by go_num, by rw [Nat.succ_mul]; exact E2, by rw [Nat.succ_mul]; exact S2, M2⟩
      case measure => simp [intOf]; omega
theorem Dat.num_le : ∀ t : Dat, D.num (Dat.d t) ≤ 2 + 2 * Dat.bulk t
  | .mk n qs => by
    have h_qs := Con.nums_le qs
    simp only [Dat.d, D.num, D.nums, Dat.bulk] at *
    omega
theorem Dat.nums_le : ∀ ts : List Dat, D.nums (Dat.ds ts) ≤ 2 * Dat.bulks ts
  | [] => by simp [Dat.ds, D.nums]
  | t :: ts => by have h1 := Dat.num_le t; have h2 := Dat.nums_le ts; simp only [Dat.ds, D.nums, Dat.bulks]; omega
end Go.Proofs.YtgpefnlpbjnjbaaGreat

namespace Go.Proofs.YtgpefnlpbjnjbaaGreat
open Go.ChangeShapes Go.WideShapes Go.ChangeAt Go.RowKit
set_option linter.unusedVariables false

theorem Rd.parts_Pg {w : World} {ds : List Dat} {fs : List Df} {ads : Option Addr} {cds : Nat} {afs : Option Addr} {cfs : Nat} {F : List Nat} (h : Rd w (Pg.d (Pg.mk ds fs)) [.slice ads ds.length cds, .slice afs fs.length cfs] F) : ∃ P0 P1, F = P0 ++ P1 ∧ Rd w (.list (Dat.ds ds)) [.slice ads ds.length cds] P0 ∧ Rd w (.list (Df.ds fs)) [.slice afs fs.length cfs] P1 := by
  obtain ⟨e0, r0, F0, G0, x0, rfl, g0, k0⟩ := h.struct_inv.cons_inv
  have l0 := g0.length
  obtain ⟨e1, r1, F1, G1, x1, rfl, g1, k1⟩ := k0.cons_inv
  have l1 := g1.length
  obtain ⟨xr, xg⟩ := RdAll.nil_inv k1
  simp only [D.len] at l0 l1
  match e0, l0 with
  | [y0_0], _ =>
  simp only [List.cons_append, List.nil_append, List.cons.injEq] at x0
  obtain ⟨rfl, x0'⟩ := x0
  subst x0'
  match e1, l1 with
  | [y1_0], _ =>
  simp only [List.cons_append, List.nil_append, List.cons.injEq] at x1
  obtain ⟨rfl, x1'⟩ := x1
  subst x1'
  subst xg
  exact ⟨F0, F1, by simp, g0, g1⟩
set_option maxHeartbeats 1000000 in
theorem markPg_in (ds1 : List Dat) (fs1 : List Df) (ads1 : Option Addr) (cds1 : Nat) (afs1 : Option Addr) (cfs1 : Nat) (F : List Nat) (k : Nat) (w : World) (hM : Pg.bulk (Pg.mk ds1 fs1) ≤ 1048576) (hk : k ≤ 549755813888) (hr : Rd w (Pg.d (Pg.mk ds1 fs1)) [.slice ads1 ds1.length cds1, .slice afs1 fs1.length cfs1] F) (ho : Owned w 0 F) :
    Calls Tryz.prog 12 #[.agg #[.slice ads1 ds1.length cds1, .slice afs1 fs1.length cfs1], .int .i64 k] w fun e w' => ∃ r : Nat, e = .returned (.int .i64 r) ∧ r ≤ k + 8 * Pg.bulk (Pg.mk ds1 fs1) ∧ Mk F w w' := by
  have hbk : Pg.bulk (Pg.mk ds1 fs1) = Dat.bulks ds1 + Df.bulks fs1 := rfl
  have hlt := hr.lt
  obtain ⟨P0, P1, rfl, p0, p1⟩ := hr.parts_Pg
  have hB := (Below.refl w.heap.size w).alloc (Nat.le_refl _) (.cells #[.slice ads1 ds1.length cds1, .slice afs1 fs1.length cfs1] 32)
  have hx0 := (Boxes.nil w).alloc #[.slice ads1 ds1.length cds1, .slice afs1 fs1.length cfs1] 32 (0, 0)
  generalize hw1 : w.alloc (.cells #[.slice ads1 ds1.length cds1, .slice afs1 fs1.length cfs1] 32) = w1 at hB hx0
  have hnd := ho.1
  have ho1 := ho.keep (w' := w1) fun x hx => hB.block x (hlt x hx)
  have q0 := p0.below hB
  have q1 := p1.below hB
  have nd0 := List.nodup_append.1 hnd
  have ow0 : Owned w1 0 P0 := ⟨nd0.1, fun x hx => ho1.2 x (by simp [hx])⟩
  have ow1 : Owned w1 0 P1 := ⟨nd0.2.1, fun x hx => ho1.2 x (by simp [hx])⟩
  have HX0 := hid hx0
  have HBx := hid (fun x (hx : x ∈ P0 ++ P1) => hlt x hx)
  have HB := hid hB
  have hn0 := Dat.nums_le ds1
  have hg0 := Dat.bulks_length ds1
  have hc0 := markDats ds1 ads1 cds1 P0 k w1 (by omega) (by omega) q0 ow0
  obtain ⟨r0, hr0⟩ : ∃ r, r = k + D.nums (Dat.ds ds1) := ⟨_, rfl⟩
  unfold MkPost at hc0
  rw [← hr0] at hc0
  have HC0 := hid hc0
  clear hc0
  have hr0b : r0 ≤ k + 8 * Dat.bulks ds1 := by omega
  have HRX0 := hid hr0
  clear hr0
  subst hw1
  go_enter Tryz.func12, Tryz.ntmps12
  go_wp2_with fail
  refine HC0.out.mono ?_
  rintro e u0 ⟨rfl, _, hm⟩
  have MM := hid hm
  have q1 := hm.rd q1 (fun x hx hy => nd0.2.2 x hy x (by simp [hx]) rfl)
  have ow1 := hm.own ow1
  have HX1 := hid (Boxes.mk HX0.out hm (fun p hp hy => by
    have : p.1 = w.heap.size := by simpa using congrArg Prod.fst (List.mem_singleton.1 hp)
    have := HBx.out p.1 (by simp [hy]); omega))
  have HM1 := hid (hm.mono (F := P0 ++ P1) fun x hx => by simp [hx])
  clear hm
  have g1_0 := HX1.out.at 0 0 rfl rfl
  have g1_1 := HX1.out.at 0 1 rfl rfl
  have hn1 := Df.nums_le fs1
  have hg1 := Df.bulks_length fs1
  have hc1 := markDfs fs1 afs1 cfs1 P1 r0 u0 (by omega) (by omega) q1 ow1
  obtain ⟨r1, hr1⟩ : ∃ r, r = r0 + D.nums (Df.ds fs1) := ⟨_, rfl⟩
  unfold MkPost at hc1
  rw [← hr1] at hc1
  have HC1 := hid hc1
  clear hc1
  have hr1b : r1 ≤ r0 + 8 * Df.bulks fs1 := by omega
  have HRX1 := hid hr1
  clear hr1
  go_wp2_with fail
  refine HC1.out.mono ?_
  rintro e u1 ⟨rfl, _, hm⟩
  have HX2 := hid (Boxes.mk HX1.out hm (fun p hp hy => by
    have : p.1 = w.heap.size := by simpa using congrArg Prod.fst (List.mem_singleton.1 hp)
    have := HBx.out p.1 (by simp [hy]); omega))
  have HM2 := hid (HM1.out.trans (hm.mono fun x hx => by simp [hx]))
  clear hm
  clear g1_0 g1_1
  go_wp2_with fail
  go_ret
  exact ⟨r1, rfl, by omega, (Mk.of_below HB.out).trans HM2.out⟩
end Go.Proofs.YtgpefnlpbjnjbaaGreat

namespace Go.Proofs.YtgpefnlpbjnjbaaGreat
open Go.ChangeShapes Go.WideShapes Go.ChangeAt Go.RowKit
open Go.Sort (grow)
open Go.ChangeMaps (open_string)
set_option linter.unusedVariables false

set_option maxHeartbeats 1000000 in
theorem FnExactReachableDefs_walk (ds_x : List Dat) (fs_x : List Df) (ads_x : Option Addr) (cds_x : Nat) (afs_x : Option Addr) (cfs_x : Nat) (k : Int) (w : World) (hr_x : RdS w (Pg.d (Pg.mk ds_x fs_x)) [.slice ads_x ds_x.length cds_x, .slice afs_x fs_x.length cfs_x]) (w_k : (Lit.int .i64 k).wf = true) :
    Calls Tryz.prog 5 #[.agg #[.slice ads_x ds_x.length cds_x, .slice afs_x fs_x.length cfs_x], .int .i64 k] w fun e w' => e = .returned (.bool true) ∧ Below w.heap.size w w' := by
  have hbw0 : Below w.heap.size w (w.alloc (.cells #[.slice ads_x ds_x.length cds_x, .slice afs_x fs_x.length cfs_x] 25)) := ((Below.refl _ _).alloc (by simp) _)
  have HX0 := hid ((Boxes.nil w).alloc #[.slice ads_x ds_x.length cds_x, .slice afs_x fs_x.length cfs_x] 25 (0, 0))
  have hc0 := fun (W : World) (hb : Below w.heap.size w W) => szPg ds_x fs_x ads_x cds_x afs_x cfs_x (1048576) W (hr_x.below hb) (by omega) (by omega)
  by_cases hp0 : ((Pg.bulk (Pg.mk ds_x fs_x) : Nat) : Int) ≤ 1048576
  case neg =>
    rw [purse_no hp0] at hc0
    have HC0 := hid hc0
    have HB0 := hid hbw0
    clear hbw0 hc0 hr_x
    go_enter Tryz.func5, Tryz.ntmps5
    go_wp2_with fail
    refine (HC0.out _ HB0.out).mono ?_
    rintro e w1 ⟨rfl, hb⟩
    have HB1 := hid (HB0.out.trans (hb.mono (by simp)))
    have HX1 := hid (HX0.out.below hb)
    clear hb HC0
    go_wp2_with fail
    go_ret
    exact ⟨rfl, HB1.out⟩
  case pos =>
    rw [purse_ok hp0] at hc0
    have HM_x : Hid (Pg.bulk (Pg.mk ds_x fs_x) ≤ 1048576) := by show _ ≤ _; omega
    have HC0 := hid hc0
    have HB0 := hid hbw0
    have R_x := hid hr_x
    have R0_x := hid hr_x
    clear hbw0 hc0 hr_x
    go_enter Tryz.func5, Tryz.ntmps5
    go_wp2_with fail
    refine (HC0.out _ HB0.out).mono ?_
    rintro e w1 ⟨rfl, hb⟩
    have HB1 := hid (HB0.out.trans (hb.mono (by simp)))
    have HX1 := hid (HX0.out.below hb)
    clear hb HC0
    have R_x := hid (R_x.out.below HB1.out)
    have g0_0 := HX1.out.at 0 0 rfl rfl
    have g0_1 := HX1.out.at 0 1 rfl rfl
    go_wp2_with fail
    clear g0_0 g0_1
    refine (toPg ds_x fs_x ads_x cds_x afs_x cfs_x _ HM_x.out ?_).mono ?_
    · exact R_x.out
    rintro e v0 ⟨ads_xs, cds_xs, afs_xs, cfs_xs, rfl, ho_xs, hb⟩
    have HB2 := hid (HB1.out.trans (hb.mono HB1.out.size))
    have HX2 := hid (HX1.out.below hb)
    have R_x := hid (R_x.out.below hb)
    have C_xs := hid ho_xs.rd
    clear hb ho_xs
    go_wp2_with fail
    have HBs := hid HB2.out.size
    refine (spec_ReachableDefs _ _ _ _ _ _ _ _ ?_ ?_).mono ?_
    · exact HM_x.out
    · exact C_xs.out
    rintro e vs ⟨a_w, c_w, rfl, ho_w, hb⟩
    have HB3 := hid (HB2.out.trans (hb.mono HB2.out.size))
    have HX3 := hid (HX2.out.below hb)
    have R_x := hid (R_x.out.below hb)
    have C_xs := hid (C_xs.out.below hb)
    have W0 := hid ho_w.rd
    have W_w := hid ho_w.rd
    have HV := hid (Below.refl vs.heap.size vs)
    have HWV := hid HB3.out.size
    clear hb ho_w C_xs HBs
    have g0_0 := HX3.out.at 0 0 rfl rfl
    have g0_1 := HX3.out.at 0 1 rfl rfl
    go_wp2_with fail
    clear g0_0 g0_1
    refine (toPg ds_x fs_x ads_x cds_x afs_x cfs_x _ HM_x.out ?_).mono ?_
    · exact R_x.out
    rintro e x0 ⟨ads_xx, cds_xx, afs_xx, cfs_xx, rfl, ho_xx, hb⟩
    have HB4 := hid (HB3.out.trans (hb.mono HB3.out.size))
    have HX4 := hid (HX3.out.below hb)
    have R_x := hid (R_x.out.below hb)
    have W_w := hid (W_w.out.below hb)
    have HV := hid (HV.out.trans (hb.mono HV.out.size))
    obtain ⟨Fx, hRx, hOx⟩ := ho_xx
    have C_xx := hid (show RdS _ _ _ from ⟨Fx, hRx⟩)
    clear hb
    have HXV := hid HV.out.size
    have HWB := hid (show w.heap.size < vs.heap.size from (HX3.out 0 _ _ rfl).1)
    have HRX := hid hRx
    have HOX := hid (hOx.mono (base' := 0) (Nat.zero_le _))
    have LOX := hid (fun b (hb : b ∈ Fx) => (⟨(hOx.2 b hb).1, hRx.lt b hb⟩ : vs.heap.size ≤ b ∧ b < x0.heap.size))
    clear hRx hOx
    have hba : Below x0.heap.size x0 (x0.alloc (.cells #[.slice ads_xx ds_x.length cds_xx, .slice afs_xx fs_x.length cfs_xx] 32)) := (Below.refl _ _).alloc (Nat.le_refl _) _
    have HXa := hid (HX4.out.alloc #[.slice ads_xx ds_x.length cds_xx, .slice afs_xx fs_x.length cfs_xx] 32 (0, 0))
    have HB5 := hid (HB4.out.trans (hba.mono HB4.out.size))
    have HX5 := hid (HX4.out.below hba)
    have R_x := hid (R_x.out.below hba)
    have W_w := hid (W_w.out.below hba)
    have HV := hid (HV.out.trans (hba.mono HV.out.size))
    have C_xx := hid (C_xx.out.below hba)
    have HRX := hid (HRX.out.below hba)
    have HOX := hid (HOX.out.below hba)
    clear hba
    have HX5 := HXa
    have g0_0 := HX5.out.at 0 0 rfl rfl
    have g0_1 := HX5.out.at 0 1 rfl rfl
    go_wp2_with fail
    clear g0_0 g0_1
    have HX0S := hid (show x0.heap.size < (x0.alloc (.cells #[.slice ads_xx ds_x.length cds_xx, .slice afs_xx fs_x.length cfs_xx] 32)).heap.size by simp)
    refine (impl_ReachableDefs _ _ _ _ _ _ _ _ ?_ ?_).mono ?_
    · exact HM_x.out
    · exact C_xx.out
    rintro e vi ⟨a_g, c_g, rfl, ho_g, hb⟩
    have HB6 := hid (HB5.out.trans (hb.mono HB5.out.size))
    have HX6 := hid (HX5.out.below hb)
    have R_x := hid (R_x.out.below hb)
    have W_w := hid (W_w.out.below hb)
    have HV := hid (HV.out.trans (hb.mono HV.out.size))
    have C_xx := hid (C_xx.out.below hb)
    have HRX := hid (HRX.out.below hb)
    have HOX := hid (HOX.out.below hb)
    obtain ⟨Fg, hRg, hOg⟩ := ho_g
    have HRG := hid hRg
    have HOG := hid (hOg.mono (base' := 0) (Nat.zero_le _))
    have LOG := hid (fun b (hb : b ∈ Fg) => Nat.lt_of_lt_of_le HX0S.out (hOg.2 b hb).1)
    clear hRg hOg hb
    go_wp2_with fail
    refine (eqIns _ _ _ _ _ _ ?_ ?_).mono ?_
    · exact ⟨Fg, HRG.out⟩
    · exact W_w.out
    rintro e ve ⟨rfl, hb⟩
    have HB7 := hid (HB6.out.trans (hb.mono HB6.out.size))
    have HX7 := hid (HX6.out.below hb)
    have R_x := hid (R_x.out.below hb)
    have W_w := hid (W_w.out.below hb)
    have HV := hid (HV.out.trans (hb.mono HV.out.size))
    have C_xx := hid (C_xx.out.below hb)
    have HRX := hid (HRX.out.below hb)
    have HOX := hid (HOX.out.below hb)
    have HRG := hid (HRG.out.below hb)
    have HOG := hid (HOG.out.below hb)
    clear hb
    go_wp2_with fail
    have g0_0 := HX7.out.at 0 0 rfl rfl
    have g0_1 := HX7.out.at 0 1 rfl rfl
    have g1_0 := HX7.out.at 1 0 rfl rfl
    have g1_1 := HX7.out.at 1 1 rfl rfl
    have hkeep : ∀ V V' : World, Below V.heap.size V V' → (Below ve.heap.size ve V ∧ V.cell? ⟨x0.heap.size, 0, none⟩ = some (.slice ads_xx ds_x.length cds_xx) ∧ V.cell? ⟨x0.heap.size, 1, none⟩ = some (.slice afs_xx fs_x.length cfs_xx) ∧ V.cell? ⟨w.heap.size, 0, none⟩ = some (.slice ads_x ds_x.length cds_x) ∧ V.cell? ⟨w.heap.size, 1, none⟩ = some (.slice afs_x fs_x.length cfs_x)) → (Below ve.heap.size ve V' ∧ V'.cell? ⟨x0.heap.size, 0, none⟩ = some (.slice ads_xx ds_x.length cds_xx) ∧ V'.cell? ⟨x0.heap.size, 1, none⟩ = some (.slice afs_xx fs_x.length cfs_xx) ∧ V'.cell? ⟨w.heap.size, 0, none⟩ = some (.slice ads_x ds_x.length cds_x) ∧ V'.cell? ⟨w.heap.size, 1, none⟩ = some (.slice afs_x fs_x.length cfs_x)) := fun V V' hb ⟨h, _⟩ =>
      have hb' := h.trans (hb.mono h.size)
      ⟨hb', (hb'.cell (p := ⟨_, 0, none⟩) (World.block_lt_of_cell? _ _ g0_0)).trans g0_0, (hb'.cell (p := ⟨_, 1, none⟩) (World.block_lt_of_cell? _ _ g0_1)).trans g0_1, (hb'.cell (p := ⟨_, 0, none⟩) (World.block_lt_of_cell? _ _ g1_0)).trans g1_0, (hb'.cell (p := ⟨_, 1, none⟩) (World.block_lt_of_cell? _ _ g1_1)).trans g1_1⟩
    have KEEP := hid hkeep
    clear hkeep
    have hbd : Below ve.heap.size ve ve.drew := (Below.refl _ _).drew
    go_region_held3 (fun V => Below ve.heap.size ve V ∧ V.cell? ⟨x0.heap.size, 0, none⟩ = some (.slice ads_xx ds_x.length cds_xx) ∧ V.cell? ⟨x0.heap.size, 1, none⟩ = some (.slice afs_xx fs_x.length cfs_xx) ∧ V.cell? ⟨w.heap.size, 0, none⟩ = some (.slice ads_x ds_x.length cds_x) ∧ V.cell? ⟨w.heap.size, 1, none⟩ = some (.slice afs_x fs_x.length cfs_x))
      (first | exact KEEP.out _ _ hbq (by assumption) | go_keep)
      (first
        | (go_at_call 8; (with_reducible refine (toPg ds_x fs_x ads_x cds_x afs_x cfs_x _ HM_x.out ?_).mono ?_); (exact R_x.out.below (‹Below ve.heap.size ve _ ∧ _›).1); rintro e ya ⟨ads_xe, cds_xe, afs_xe, cfs_xe, rfl, ho_xe, hbq⟩)
        | (go_at_call 11; (with_reducible refine (eqPg _ _ _ _ _ _ _ _ _ _ _ ?_ ?_).mono ?_); (exact C_xx.out.below ((‹Below ve.heap.size ve ya ∧ _›).1)); (exact ho_xe.rd); rintro e yb ⟨rfl, hbq⟩))
    obtain ⟨hbr, -⟩ := ‹Below ve.heap.size ve yb ∧ _›
    clear KEEP hbd g0_0 g0_1 g1_0 g1_1
    have HB8 := hid (HB7.out.trans (hbr.mono HB7.out.size))
    have HX8 := hid (HX7.out.below hbr)
    have R_x := hid (R_x.out.below hbr)
    have W_w := hid (W_w.out.below hbr)
    have HV := hid (HV.out.trans (hbr.mono HV.out.size))
    have C_xx := hid (C_xx.out.below hbr)
    have HRX := hid (HRX.out.below hbr)
    have HOX := hid (HOX.out.below hbr)
    have HRG := hid (HRG.out.below hbr)
    have HOG := hid (HOG.out.below hbr)
    clear hbr ho_xe
    have g0_0 := HX8.out.at 0 0 rfl rfl
    have g0_1 := HX8.out.at 0 1 rfl rfl
    have hm1 := markPg_in ds_x fs_x ads_xx cds_xx afs_xx cfs_xx Fx 1 yb HM_x.out (by omega) HRX.out HOX.out
    rw [show ((1 : Nat) : Int) = 1 from rfl] at hm1
    have HM1 := hid hm1
    clear hm1
    go_wp2_with fail
    clear g0_0 g0_1
    refine HM1.out.mono ?_
    rintro e km ⟨rk, rfl, hrk, hmk⟩
    have HB9 := hid (Mk.below HB8.out hmk (fun b hb => by have h1 := HWV.out; have h2 := LOX.out b hb; omega) HB8.out.size)
    have HV := hid (Mk.below HV.out hmk (fun b hb => by have h2 := LOX.out b hb; omega) HV.out.size)
    have HX9 := hid (Boxes.mk HX8.out hmk (fun q hq hy => by
      have h2 := LOX.out q.1 hy
      simp only [List.mem_cons, List.not_mem_nil, or_false] at hq
      have h3 := HWB.out
      rcases hq with rfl | rfl
      · exact absurd h2.2 (Nat.lt_irrefl _)
      · simp only at h2; omega))
    have R_x := hid (R0_x.out.below HB9.out)
    have W_w := hid (W0.out.below HV.out)
    have HRG := hid (hmk.rd HRG.out (fun b hb hy => by have h1 := LOG.out b hb; have h2 := LOX.out b hy; omega))
    have HOG := hid (hmk.own HOG.out)
    have hrk2 : rk ≤ 1099511627776 := by have := HM_x.out; omega
    have hk0 : decide ((rk : Int) < 0) = false := decide_eq_false (by omega)
    clear hmk hrk C_xx HRX HOX HM1
    go_wp2_with fail
    refine (eqIns _ _ _ _ _ _ ?_ ?_).mono ?_
    · exact ⟨Fg, HRG.out⟩
    · exact W_w.out
    rintro e vf ⟨rfl, hb⟩
    have HB10 := hid (HB9.out.trans (hb.mono HB9.out.size))
    have HX10 := hid (HX9.out.below hb)
    have R_x := hid (R_x.out.below hb)
    have W_w := hid (W_w.out.below hb)
    have HV := hid (HV.out.trans (hb.mono HV.out.size))
    have HRG := hid (HRG.out.below hb)
    have HOG := hid (HOG.out.below hb)
    clear hb
    clear hk0
    have hm2 := markIns (reachN (Pg.mk ds_x fs_x) k) a_g c_g Fg 1 vf (by have := reachN_len ds_x fs_x k; have := HM_x.out; omega) (by rw [nums_In]; have := reachN_len ds_x fs_x k; have := HM_x.out; omega) HRG.out HOG.out
    unfold MkPost at hm2
    obtain ⟨mm, hmm⟩ : ∃ mm, mm = 1 + D.nums (In.ds (reachN (Pg.mk ds_x fs_x) k)) := ⟨_, rfl⟩
    rw [← hmm, show ((1 : Nat) : Int) = 1 from rfl] at hm2
    have HMM := hid hmm
    have hmb : mm ≤ 1099511627776 := by have := HMM.out; rw [nums_In] at this; have := reachN_len ds_x fs_x k; have := HM_x.out; omega
    clear hmm
    have HM2 := hid hm2
    clear hm2
    go_wp2_with fail
    refine HM2.out.mono ?_
    rintro e kg ⟨rfl, hrd, hmk⟩
    have HB11 := hid (Mk.below HB10.out hmk (fun b hb => by have h1 := HWV.out; have h2 := LOG.out b hb; have h3 := HXV.out; omega) HB10.out.size)
    have HV := hid (Mk.below HV.out hmk (fun b hb => by have h2 := LOG.out b hb; have h3 := HXV.out; omega) HV.out.size)
    have HX11 := hid (Boxes.mk HX10.out hmk (fun q hq hy => by
      have h2 := LOG.out q.1 hy
      simp only [List.mem_cons, List.not_mem_nil, or_false] at hq
      have h3 := HWB.out
      rcases hq with rfl | rfl
      · exact absurd h2 (Nat.lt_irrefl _)
      · simp only at h2; have h4 := HXV.out; have h5 := HWV.out; omega))
    have R_x := hid (R0_x.out.below HB11.out)
    have W_w := hid (W0.out.below HV.out)
    have HRM := hid (show RdL kg (D.marks 1 (In.ds (reachN (Pg.mk ds_x fs_x) k))) (.slice a_g (reachN (Pg.mk ds_x fs_x) k).length c_g) from ⟨Fg, hrd⟩)
    clear hmk hrd HRG HOG HM2
    have hh := heldIns (reachN (Pg.mk ds_x fs_x) k) a_g c_g 1 kg (by have := reachN_len ds_x fs_x k; have := HM_x.out; omega) HRM.out
    rw [show 1 + (reachN (Pg.mk ds_x fs_x) k).length = mm from by have := HMM.out; rw [nums_In] at this; omega, show ((1 : Nat) : Int) = 1 from rfl] at hh
    have HH := hid hh
    clear hh
    have hm0 : decide ((mm : Int) < 0) = false := decide_eq_false (by omega)
    go_wp2_with fail
    refine HH.out.mono ?_
    rintro e kh ⟨rfl, rfl⟩
    clear HH
    have g1_0 := HX11.out.at 1 0 rfl rfl
    have g1_1 := HX11.out.at 1 1 rfl rfl
    go_wp2_with fail
    clear g1_0 g1_1
    refine (toPg ds_x fs_x ads_x cds_x afs_x cfs_x _ HM_x.out ?_).mono ?_
    · exact R_x.out
    rintro e vh0 ⟨ads_xh, cds_xh, afs_xh, cfs_xh, rfl, ho_xh, hb⟩
    have HB12 := hid (HB11.out.trans (hb.mono HB11.out.size))
    have HX12 := hid (HX11.out.below hb)
    have R_x := hid (R_x.out.below hb)
    have W_w := hid (W_w.out.below hb)
    have HV := hid (HV.out.trans (hb.mono HV.out.size))
    have HRM := hid (HRM.out.below hb)
    have C_xh := hid ho_xh.rd
    clear hb ho_xh
    go_wp2_with fail
    refine (impl_ReachableDefs _ _ _ _ _ _ _ _ ?_ ?_).mono ?_
    · exact HM_x.out
    · exact C_xh.out
    rintro e vh ⟨a_h, c_h, rfl, ho_h, hb⟩
    have HB13 := hid (HB12.out.trans (hb.mono HB12.out.size))
    have HX13 := hid (HX12.out.below hb)
    have R_x := hid (R_x.out.below hb)
    have W_w := hid (W_w.out.below hb)
    have HV := hid (HV.out.trans (hb.mono HV.out.size))
    have HRM := hid (HRM.out.below hb)
    have C_xh := hid (C_xh.out.below hb)
    have HRH := hid ho_h.rd
    clear hb ho_h C_xh
    go_wp2_with fail
    refine (eqIns _ _ _ _ _ _ ?_ ?_).mono ?_
    · exact HRH.out
    · exact W_w.out
    rintro e vj ⟨rfl, hb⟩
    have HB14 := hid (HB13.out.trans (hb.mono HB13.out.size))
    have HX14 := hid (HX13.out.below hb)
    have R_x := hid (R_x.out.below hb)
    have W_w := hid (W_w.out.below hb)
    have HV := hid (HV.out.trans (hb.mono HV.out.size))
    have HRM := hid (HRM.out.below hb)
    have HRH := hid (HRH.out.below hb)
    clear hb
    have hh := heldIns (reachN (Pg.mk ds_x fs_x) k) a_g c_g 1 vj (by have := reachN_len ds_x fs_x k; have := HM_x.out; omega) HRM.out
    rw [show 1 + (reachN (Pg.mk ds_x fs_x) k).length = mm from by have := HMM.out; rw [nums_In] at this; omega, show ((1 : Nat) : Int) = 1 from rfl] at hh
    have HH := hid hh
    clear hh
    have hm0' : decide ((mm : Int) < 0) = false := decide_eq_false (by omega)
    go_wp2_with fail
    refine HH.out.mono ?_
    rintro e kj ⟨rfl, rfl⟩
    clear HH
    go_wp2_with fail
    go_ret
    exact ⟨rfl, HB14.out⟩

set_option maxRecDepth 100000 in
theorem FnExactReachableDefs_lifted (os : Os) (started : os.Started) (H : Type) (enc : TypeId × Value → H) :
    ReturnsInHanded {} Tryz.checked os 5 .any (Rows.fnExactReachableDefsSpec.pre6 enc Tryz.prog Tryz.f5 Rows.fnExactReachableDefsRow.domain false) (Rows.fnExactReachableDefsSpec.post enc Tryz.prog Tryz.f5 false true false false) := by
  refine law_lifted (C := Tryz.checked) (tb := 4) own started (by kernel_rfl) Tryz.func5 laidOut (by intro t ht; rw [Tryz.params5] at ht; simp at ht; rcases ht with rfl | rfl <;> exact ⟨by kernel_rfl, of_decide_eq_true (by kernel_rfl)⟩) rfl Tryz.underlying4 rfl ?_
    (ChangeSpec.witness6 (enc := enc) (C := Tryz.checked) false ⟨#[], #[.agg #[.slice none 0 0, .slice none 0 0], .int .i64 0], []⟩ 8 (by kernel_rfl) (by kernel_rfl) (by kernel_rfl) (by kernel_rfl)) ?_
  · intro ds hds
    rw [Tryz.params5] at hds
    match ds, hds with
    | [_, _], _ => exact ⟨rfl, rfl, rfl⟩
  intro W base args ds p hval0 hA0 hlt
  have hval : ∀ (j : Nat) t v, Tryz.f5.params[j]? = some t → args[j]? = some v → Value.okWide Tryz.prog W .any base t v := hval0
  have hA : DataW.TrodAll enc Tryz.prog W 0 (fun _ => true) true Tryz.f5.params.toList args.toList ds p := hA0
  rw [Tryz.params5] at hA hval
  clear hval0 hA0
  obtain ⟨v0, vs0, d0, ds0, p0, q0, hargs0, rfl, rfl, h0, r0⟩ := trodAll_cons hA
  obtain ⟨v1, vs1, d1, ds1, p1, q1, hargs1, rfl, rfl, h1, r1⟩ := trodAll_cons r0
  obtain ⟨rfl, rfl, rfl⟩ := trodAll_nil r1
  subst hargs1
  obtain rfl : args = #[v0, v1] := by cases args; simp_all
  obtain ⟨ds_x, fs_x, ads_x, cds_x, afs_x, cfs_x, rfl, hr_x⟩ := arg_Pg (hval 0 25 v0 rfl rfl) h0
  obtain ⟨k, rfl, rfl, rfl, w_k⟩ := open_int Tryz.underlying2 (hval 1 2 v1 rfl rfl) h1
  exact FnExactReachableDefs_walk ds_x fs_x ads_x cds_x afs_x cfs_x k W hr_x w_k

theorem FnExactReachableDefs_holds : Rows.FnExactReachableDefsSaid :=
  OpenClaim.holds_of_wide 5 Tryz.f5 rfl rfl rfl rfl rfl rfl rfl ⟨rfl, rfl, rfl, rfl, rfl⟩ rfl rfl rfl rfl rfl (by kernel_rfl) Tryz.func5 (by kernel_rfl)
    (of_decide_eq_true (by kernel_rfl)) (by unfold Func.isWrapper; first | (rw [if_pos (by decide +kernel)]; kernel_rfl) | (rw [if_neg (by decide +kernel)]; exact ⟨rfl, rfl⟩))
    (fun os started H enc _ => FnExactReachableDefs_lifted os started H enc)
end Go.Proofs.YtgpefnlpbjnjbaaGreat
