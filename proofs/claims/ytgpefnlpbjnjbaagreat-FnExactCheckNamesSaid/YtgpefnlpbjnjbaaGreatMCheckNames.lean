/- FnExactCheckNames: for every input. No condition. -/
import Derived.Test.YtgpefnlpbjnjbaaGreatMem
import Derived.Test.YtgpefnlpbjnjbaaGreatSc
import Derived.Test.YtgpefnlpbjnjbaaGreatDTy
import Derived.Test.YtgpefnlpbjnjbaaGreatDCon
import Derived.Test.YtgpefnlpbjnjbaaGreatDDat
import Derived.Test.YtgpefnlpbjnjbaaGreatDTm
import Derived.Test.YtgpefnlpbjnjbaaGreatDDf
import Derived.Test.YtgpefnlpbjnjbaaGreatDPg
import Derived.Test.YtgpefnlpbjnjbaaGreatSzTy
import Derived.Test.YtgpefnlpbjnjbaaGreatSzSc
import Derived.Lib.QuietBelow
import Derived.Test.YtgpefnlpbjnjbaaGreatSzDf
import Derived.Test.YtgpefnlpbjnjbaaGreatToTy
import Derived.Test.YtgpefnlpbjnjbaaGreatToSc
import Derived.Test.YtgpefnlpbjnjbaaGreatToDf
import Derived.Test.YtgpefnlpbjnjbaaGreatSzTm
import Derived.Test.YtgpefnlpbjnjbaaGreatMCheckNamesb
import Derived.Test.YtgpefnlpbjnjbaaGreatDatKnown
import Derived.BigQuiet
import Derived.Test.YtgpefnlpbjnjbaaGreatTmValid
import Derived.Test.YtgpefnlpbjnjbaaGreatPgNamed
import Derived.Test.YtgpefnlpbjnjbaaGreatDatOk
import Derived.Test.YtgpefnlpbjnjbaaGreatFst
import Derived.Test.YtgpefnlpbjnjbaaGreatTwo
import Derived.Test.YtgpefnlpbjnjbaaGreatPgOkI
import Derived.Test.YtgpefnlpbjnjbaaGreatAnyDf
import Derived.Deep.RegionHeld3
namespace Go.Proofs.YtgpefnlpbjnjbaaGreat
open Go.RowKit

def contigB (P : Program) : Nat → List Field → Nat → Bool
  | o, [], tot => o == tot
  | o, f :: fs, tot => f.offset == o && contigB P (o + P.cellsOf f.type) fs tot
/-- Types of plain data, closed in themselves. -/
def okTy (P : Program) (S : List TypeId) (t : TypeId) : Bool :=
  match P.underlying t with
  | some (.int k) => k == .i64
  | some .bool => true
  | some .string => true
  | some (.slice e) => S.contains e && decide (1 ≤ P.cellsOf e)
  | some (.struct fs) => fs.toList.all (fun f => S.contains f.type) && contigB P 0 fs.toList (P.cellsOf t)
  | _ => false

def TypedFs (r : TypeId → D → Prop) : List Field → List D → Prop
  | [], [] => True
  | f :: fs, d :: ds => r f.type d ∧ TypedFs r fs ds
  | _, _ => False
/-- The datum has the type's shape. -/
def Typed (P : Program) : Nat → TypeId → D → Prop
  | 0, _, _ => False
  | n + 1, t, d =>
    match P.underlying t with
    | some (.int _) => ∃ k, d = .int k
    | some .bool => ∃ b, d = .bool b
    | some .string => ∃ s, d = .str s
    | some (.slice e) => ∃ ds, d = .list ds ∧ ∀ x ∈ ds, Typed P n e x
    | some (.struct fs) => ∃ ds, d = .struct ds ∧ TypedFs (Typed P n) fs.toList ds
    | _ => False

theorem all_cells {w : World} {b o m : Nat} {len : Nat} {f : Nat → List Value} {ds : Nat → D} {Fs : Nat → List Nat}
    (h : ∀ i, i < len → (f i).length = m ∧ Cells w b (o + i * m) (f i) ∧ Rd w (ds i) (f i) (Fs i)) :
    ∃ xs F, xs.length = len * m ∧ Cells w b o xs ∧ RdAll w ((List.range len).map ds) xs F := by
  induction len with
  | zero => exact ⟨[], [], by simp, fun j v hj => by simp at hj, RdAll.nil⟩
  | succ len ih =>
    obtain ⟨xs, F, h0, h1, h2⟩ := ih fun i hi => h i (by omega)
    obtain ⟨k0, k1, k2⟩ := h len (by omega)
    refine ⟨xs ++ f len, F ++ Fs len, by rw [List.length_append, h0, k0, Nat.succ_mul], fun j v hj => ?_, ?_⟩
    · by_cases hl : j < xs.length
      · rw [List.getElem?_append_left hl] at hj; exact h1 j v hj
      · rw [List.getElem?_append_right (by omega)] at hj
        have := k1 _ v hj
        rw [h0] at this hl
        rw [show o + j = o + len * m + (j - len * m) by omega]; exact this
    · rw [List.range_succ, List.map_append]
      exact h2.append (RdAll.one k2)

section
variable {H : Type} {enc : TypeId × Value → H} {P : Program} {w : World} {S : List TypeId}

theorem struct_rd {n : Nat} {r : TypeId → List Value → Option (DataW H × List MemPlace)} {cs : List Value}
    (ih : ∀ t cs x, t ∈ S → r t cs = some x → cs.length = P.cellsOf t ∧ ∃ d F, Rd w d cs F ∧ Typed P n t d) :
    ∀ (fs : List Field) (o : Nat) (xs : List (DataW H × List MemPlace)), (∀ f ∈ fs, f.type ∈ S) → contigB P o fs cs.length = true →
      (∀ (i : Nat) (f : Field), fs[i]? = some f → r f.type ((cs.drop f.offset).take (P.cellsOf f.type)) = xs[i]?) → xs.length = fs.length →
      ∃ ds F, RdAll w ds (cs.drop o) F ∧ TypedFs (Typed P n) fs ds
  | [], o, xs, _, hc, _, _ => by
    simp only [contigB, beq_iff_eq] at hc
    exact ⟨[], [], by rw [hc, List.drop_length]; exact RdAll.nil, trivial⟩
  | f :: fs, o, xs, hS, hc, hx, hl => by
    simp only [contigB, Bool.and_eq_true, beq_iff_eq] at hc
    obtain ⟨rfl, hc⟩ := hc
    match xs, hl with
    | x :: xs, hl =>
      have h0 := hx 0 f rfl
      simp only [List.getElem?_cons_zero] at h0
      obtain ⟨k0, d, F, k1, k2⟩ := ih _ _ _ (hS f (by simp)) h0
      obtain ⟨ds, G, k3, k4⟩ := struct_rd ih fs (f.offset + P.cellsOf f.type) xs (fun g hg => hS g (by simp [hg])) hc (fun i g hg => by have := hx (i + 1) g (by simpa using hg); simpa using this) (by simpa using hl)
      refine ⟨d :: ds, F ++ G, ?_, k2, k4⟩
      have e : cs.drop f.offset = (cs.drop f.offset).take (P.cellsOf f.type) ++ cs.drop (f.offset + P.cellsOf f.type) := by
        rw [← List.drop_drop, List.take_append_drop]
      rw [e]
      exact RdAll.cons k1 k3

theorem trod_rd (hS : S.all (okTy P S) = true) (hcell : S.all (fun t => match P.underlying t with | some (.int _) => P.cellsOf t == 1 | some .bool => P.cellsOf t == 1 | some .string => P.cellsOf t == 1 | some (.slice _) => P.cellsOf t == 1 | _ => true) = true) :
    ∀ (fuel : Nat) (t : TypeId) (cs : List Value) (x : DataW H × List MemPlace), t ∈ S → DataW.trod enc P w 0 (fun _ => true) true fuel t cs = some x → cs.length = P.cellsOf t ∧ ∃ d F, Rd w d cs F ∧ Typed P fuel t d := by
  intro fuel
  induction fuel with
  | zero => intro t cs x _ h; simp [DataW.trod] at h
  | succ n ih =>
    intro t cs x ht h
    have hok := List.all_eq_true.1 hS t ht
    have hce := List.all_eq_true.1 hcell t ht
    unfold okTy at hok
    split at hok
    · rename_i k hu
      obtain rfl : k = .i64 := by simpa using hok
      obtain ⟨m, rfl, rfl, hwf⟩ := DataW.trod_int hu h
      simp only [hu, beq_iff_eq] at hce
      refine ⟨by simp [hce], .int m, [], ?_, by unfold Typed; rw [hu]; exact ⟨m, rfl⟩⟩
      have := hwf
      simp [Lit.wf, IntKind.min, IntKind.max, IntKind.bits, IntKind.signed] at this
      exact Rd.int_mk (by omega) (by omega)
    · rename_i hu
      obtain ⟨b, rfl, rfl⟩ := DataW.trod_bool hu h
      simp only [hu, beq_iff_eq] at hce
      exact ⟨by simp [hce], .bool b, [], Rd.bool_mk, by unfold Typed; rw [hu]; exact ⟨b, rfl⟩⟩
    · rename_i hu
      obtain ⟨s, rfl, rfl, hs⟩ := DataW.trod_string hu h
      simp only [hu, beq_iff_eq] at hce
      exact ⟨by simp [hce], .str s, [], Rd.str_mk (by unfold maxLen at hs; omega), by unfold Typed; rw [hu]; exact ⟨s, rfl⟩⟩
    · rename_i e hu
      simp only [hu, beq_iff_eq] at hce
      simp only [Bool.and_eq_true, decide_eq_true_eq] at hok
      have heS : e ∈ S := by simpa using hok.1
      rcases DataW.trod_slice hu h with ⟨rfl, rfl⟩ | ⟨a, len, cap, elems, rest, m, hm, rfl, rfl, hb, hl, hc, hel, hg, _, _⟩
      · exact ⟨by simp [hce], .list [], [], Rd.nil_mk (by omega), by unfold Typed; rw [hu]; exact ⟨[], rfl, fun x hx => by simp at hx⟩⟩
      · obtain rfl : n = m := by omega
        have key : ∀ i, i < len → ∃ c d F, w.cells? 0 (a.add (i * P.cellsOf e)) (P.cellsOf e) = some c ∧ Rd w d c F ∧ Typed P n e d := fun i hi => by
          have h1 := hg i hi
          rw [List.getElem?_eq_getElem (by omega)] at h1
          obtain ⟨c, k1, k2⟩ := Option.bind_eq_some_iff.1 h1
          obtain ⟨_, d, F, k3, k4⟩ := ih e c _ heS k2
          exact ⟨c, d, F, k1, k3, k4⟩
        have hcap : cap ≤ 9223372036854775807 := by unfold maxLen at hc; omega
        refine ⟨by simp [hce], ?_⟩
        by_cases h0 : len = 0
        · subst h0
          exact ⟨.list [], [], Rd.nil_mk hcap, by unfold Typed; rw [hu]; exact ⟨[], rfl, fun x hx => by simp at hx⟩⟩
        · classical
          have key' : ∀ i, ∃ p : List Value × D × List Nat, i < len → w.cells? 0 (a.add (i * P.cellsOf e)) (P.cellsOf e) = some p.1 ∧ Rd w p.2.1 p.1 p.2.2 ∧ Typed P n e p.2.1 := fun i => by
            by_cases hi : i < len
            · obtain ⟨c, d, F, k⟩ := key i hi; exact ⟨(c, d, F), fun _ => k⟩
            · exact ⟨([], .int 0, []), fun h => absurd h hi⟩
          obtain ⟨f, hf⟩ := Classical.skolem.1 key'
          have hspot : a.spot = none := by
            obtain ⟨_, q2, q3⟩ := World.cells?_some (hf 0 (by omega)).1
            have := q3 0 (by omega)
            rw [Nat.zero_mul] at this
            have hlt : 0 < (f 0).1.length := by rw [q2]; omega
            rw [List.getElem?_eq_getElem hlt] at this
            simp only [Addr.add, if_pos] at this
            unfold World.cell? at this
            split at this
            · split at this
              · cases this
              · rename_i hsp; simpa using hsp
            · cases this
          obtain ⟨blk, off, spot⟩ := a
          obtain rfl : spot = none := hspot
          have hadd : ∀ b o j : Nat, (Addr.mk b o none).add j = ⟨b, o + j, none⟩ := fun b o j => by
            unfold Addr.add
            split
            · rename_i hj; subst hj; rfl
            · rfl
          have hcells : ∀ i, i < len → (f i).1.length = P.cellsOf e ∧ Cells w blk (off + i * P.cellsOf e) (f i).1 ∧ Rd w (f i).2.1 (f i).1 (f i).2.2 := fun i hi => by
            obtain ⟨q1, q2, q3⟩ := World.cells?_some (hf i hi).1
            refine ⟨q2, fun j v hj => ?_, (hf i hi).2.1⟩
            have hjl : j < P.cellsOf e := by rw [← q2]; exact (List.getElem?_eq_some_iff.1 hj).1
            have := q3 j hjl
            rw [hadd, hadd, hj] at this
            exact this
          obtain ⟨xs, F, g0, g1, g2⟩ := all_cells hcells
          have hblk : blk < w.heap.size := by
            obtain ⟨v, hv⟩ : ∃ v, xs[0]? = some v := ⟨_, List.getElem?_eq_getElem (by rw [g0]; exact Nat.mul_pos (by omega) (by omega))⟩
            exact block_lt_of_cell (g1 0 v hv)
          refine ⟨.list ((List.range len).map fun i => (f i).2.1), blk :: F, ?_, by unfold Typed; rw [hu]; exact ⟨_, rfl, fun x hx => by obtain ⟨i, hi, rfl⟩ := List.mem_map.1 hx; exact (hf i (by simpa using hi)).2.2⟩⟩
          have := Rd.list_mk (w := w) (ds := (List.range len).map fun i => (f i).2.1) (b := blk) (o := off) (cap := cap) (xs := xs) (F := F) (by simp; exact h0) (by simpa using hl) hcap hblk g1 g2
          simpa using this
    · rename_i fs hu
      simp only [Bool.and_eq_true] at hok
      obtain ⟨xs, m, hm, rfl, hl, hxl, hx⟩ := DataW.trod_struct hu h
      obtain rfl : n = m := by omega
      obtain ⟨ds, F, k1, k2⟩ := struct_rd (P := P) (w := w) (S := S) (n := n) (cs := cs) ih fs.toList 0 xs (fun f hf => by have := List.all_eq_true.1 hok.1 f hf; simpa using this) (by rw [hl]; exact hok.2) (fun i f hf => hx i f (by simpa using hf)) (by simpa using hxl)
      exact ⟨hl, .struct ds, F, Rd.struct_mk (by simpa using k1), by unfold Typed; rw [hu]; exact ⟨ds, rfl, k2⟩⟩
    · cases hok
end
end Go.Proofs.YtgpefnlpbjnjbaaGreat

namespace Go.Proofs.YtgpefnlpbjnjbaaGreat
open Go.ChangeShapes Go.WideShapes Go.ChangeAt Go.RowKit
set_option linter.unusedVariables false

set_option maxRecDepth 100000 in
theorem typed_In : ∀ (n : Nat) (d : D), Typed Tryz.prog n 2 d → ∃ t : Int, d = In.d t
  | 0, _, h => by simp [Typed] at h
  | n + 1, d, h => by
    unfold Typed at h
    rw [Tryz.underlying2] at h
    exact h
set_option maxRecDepth 100000 in
theorem typed_Ins : ∀ (n : Nat) (d : D), Typed Tryz.prog n 27 d → ∃ ts : List Int, d = .list (In.ds ts)
  | 0, _, h => by simp [Typed] at h
  | n + 1, d, h => by
    unfold Typed at h
    rw [Tryz.underlying27] at h
    obtain ⟨ds, rfl, h⟩ := h
    have key : ∀ ds : List D, (∀ x ∈ ds, Typed Tryz.prog n 2 x) → ∃ ts, ds = In.ds ts := by
      intro ds
      induction ds with
      | nil => exact fun _ => ⟨[], rfl⟩
      | cons x xs ih =>
        intro hx
        obtain ⟨t, ht⟩ := typed_In n x (hx x (by simp))
        obtain ⟨ts, hts⟩ := ih fun y hy => hx y (by simp [hy])
        exact ⟨t :: ts, by rw [ht, hts]; rfl⟩
    obtain ⟨ts, rfl⟩ := key ds h
    exact ⟨ts, rfl⟩
set_option maxRecDepth 100000 in
theorem typed_Sr : ∀ (n : Nat) (d : D), Typed Tryz.prog n 9 d → ∃ t : ByteArray, d = Sr.d t
  | 0, _, h => by simp [Typed] at h
  | n + 1, d, h => by
    unfold Typed at h
    rw [Tryz.underlying9] at h
    exact h
set_option maxRecDepth 100000 in
theorem typed_Srs : ∀ (n : Nat) (d : D), Typed Tryz.prog n 60 d → ∃ ts : List ByteArray, d = .list (Sr.ds ts)
  | 0, _, h => by simp [Typed] at h
  | n + 1, d, h => by
    unfold Typed at h
    rw [Tryz.underlying60] at h
    obtain ⟨ds, rfl, h⟩ := h
    have key : ∀ ds : List D, (∀ x ∈ ds, Typed Tryz.prog n 9 x) → ∃ ts, ds = Sr.ds ts := by
      intro ds
      induction ds with
      | nil => exact fun _ => ⟨[], rfl⟩
      | cons x xs ih =>
        intro hx
        obtain ⟨t, ht⟩ := typed_Sr n x (hx x (by simp))
        obtain ⟨ts, hts⟩ := ih fun y hy => hx y (by simp [hy])
        exact ⟨t :: ts, by rw [ht, hts]; rfl⟩
    obtain ⟨ts, rfl⟩ := key ds h
    exact ⟨ts, rfl⟩
set_option maxRecDepth 100000 in
theorem typed_Bo : ∀ (n : Nat) (d : D), Typed Tryz.prog n 4 d → ∃ t : Bool, d = Bo.d t
  | 0, _, h => by simp [Typed] at h
  | n + 1, d, h => by
    unfold Typed at h
    rw [Tryz.underlying4] at h
    exact h
end Go.Proofs.YtgpefnlpbjnjbaaGreat

namespace Go.Proofs.YtgpefnlpbjnjbaaGreat
open Go.ChangeShapes Go.WideShapes Go.ChangeAt Go.RowKit
set_option linter.unusedVariables false

set_option maxRecDepth 100000 in
mutual
theorem typed_Ty : ∀ (n : Nat) (d : D), Typed Tryz.prog n 80 d → ∃ t : Ty, d = Ty.d t
  | 0, _, h => by simp [Typed] at h
  | n + 1, d, h => by
    unfold Typed at h
    rw [Tryz.underlying80] at h
    obtain ⟨ds, rfl, h⟩ := h
    match ds, h with
    | [d0, d1, d2], ⟨h0, h1, h2, _⟩ =>
      match n, h0, h1, h2 with
      | n + 1, h0, h1, h2 =>
        unfold Typed at h0
        rw [Tryz.underlying2] at h0
        obtain ⟨x0, rfl⟩ := h0
        unfold Typed at h1
        rw [Tryz.underlying9] at h1
        obtain ⟨x1, rfl⟩ := h1
        obtain ⟨x2, rfl⟩ := typed_Tys (n + 1) d2 h2
        exact ⟨.mk x0 x1 x2, rfl⟩
theorem typed_Tys : ∀ (n : Nat) (d : D), Typed Tryz.prog n 78 d → ∃ ts : List Ty, d = .list (Ty.ds ts)
  | 0, _, h => by simp [Typed] at h
  | n + 1, d, h => by
    unfold Typed at h
    rw [Tryz.underlying78] at h
    obtain ⟨ds, rfl, h⟩ := h
    have key : ∀ ds : List D, (∀ x ∈ ds, Typed Tryz.prog n 80 x) → ∃ ts, ds = Ty.ds ts := by
      intro ds
      induction ds with
      | nil => exact fun _ => ⟨[], rfl⟩
      | cons x xs ih =>
        intro hx
        obtain ⟨t, ht⟩ := typed_Ty n x (hx x (by simp))
        obtain ⟨ts, hts⟩ := ih fun y hy => hx y (by simp [hy])
        exact ⟨t :: ts, by rw [ht, hts]; rfl⟩
    obtain ⟨ts, rfl⟩ := key ds h
    exact ⟨ts, rfl⟩
end

def tidsTy : List TypeId := [80, 2, 9, 78]
theorem tidsTy_ok : tidsTy.all (okTy Tryz.prog tidsTy) = true := by kernel_rfl -- 80
theorem tidsTy_cells : tidsTy.all (fun t => match Tryz.prog.underlying t with | some (.int _) => Tryz.prog.cellsOf t == 1 | some .bool => Tryz.prog.cellsOf t == 1 | some .string => Tryz.prog.cellsOf t == 1 | some (.slice _) => Tryz.prog.cellsOf t == 1 | _ => true) = true := by kernel_rfl -- 80
set_option maxRecDepth 100000 in
/-- Handed in. -/
theorem arg_Ty {H : Type} {enc : TypeId × Value → H} {W : World} {base : Nat} {vv : Value} {d : DataW H} {p : List MemPlace} (hv : Value.okWide Tryz.prog W .any base 80 vv)
    (h : DataW.Trod enc Tryz.prog W 0 (fun _ => true) true 80 vv d p) : ∃ (k : Int) (n : ByteArray) (ks : List Ty) (aks : Option Addr) (cks : Nat), vv = .agg #[.int .i64 k, .string n, .slice aks ks.length cks] ∧ RdS W (Ty.d (Ty.mk k n ks)) [.int .i64 k, .string n, .slice aks ks.length cks] := by
  obtain ⟨cs, rfl, _⟩ := okWide_struct Tryz.underlying80 hv
  obtain ⟨fuel, hf⟩ := h
  obtain ⟨_, d', F, h1, h2⟩ := trod_rd tidsTy_ok tidsTy_cells fuel _ _ _ (by simp [tidsTy]) hf
  obtain ⟨⟨k, n, ks⟩, rfl⟩ := typed_Ty _ _ h2
  obtain ⟨aks, cks, hc, -⟩ := h1.Ty_inv
  rw [hc] at h1
  refine ⟨k, n, ks, aks, cks, ?_, ⟨F, h1⟩⟩
  have : cs = #[.int .i64 k, .string n, .slice aks ks.length cks] := by
    apply Array.toList_inj.1
    simpa [Value.cells] using hc
  rw [this]
def tidsTys : List TypeId := [78, 80, 2, 9]
theorem tidsTys_ok : tidsTys.all (okTy Tryz.prog tidsTys) = true := by kernel_rfl -- 78
theorem tidsTys_cells : tidsTys.all (fun t => match Tryz.prog.underlying t with | some (.int _) => Tryz.prog.cellsOf t == 1 | some .bool => Tryz.prog.cellsOf t == 1 | some .string => Tryz.prog.cellsOf t == 1 | some (.slice _) => Tryz.prog.cellsOf t == 1 | _ => true) = true := by kernel_rfl -- 78
set_option maxRecDepth 100000 in
/-- Handed in. -/
theorem arg_Tys {H : Type} {enc : TypeId × Value → H} {W : World} {base : Nat} {vv : Value} {d : DataW H} {p : List MemPlace} (hv : Value.okWide Tryz.prog W .any base 78 vv)
    (h : DataW.Trod enc Tryz.prog W 0 (fun _ => true) true 78 vv d p) : ∃ (ts : List Ty) (a : Option Addr) (c : Nat), vv = .slice a ts.length c ∧ RdL W (Ty.ds ts) (.slice a ts.length c) := by
  obtain ⟨_, _, _, rfl⟩ := okWide_slice Tryz.underlying78 hv
  obtain ⟨fuel, hf⟩ := h
  obtain ⟨_, d', F, h1, h2⟩ := trod_rd tidsTys_ok tidsTys_cells fuel _ _ _ (by simp [tidsTys]) hf
  obtain ⟨ts, rfl⟩ := typed_Tys _ _ h2
  obtain ⟨a, cap, hc, -⟩ := h1.list_inv
  rw [Ty.ds_length] at hc
  simp only [Value.cells, List.cons.injEq, and_true] at hc
  rw [hc] at h1 ⊢
  exact ⟨ts, a, cap, rfl, F, h1⟩

end Go.Proofs.YtgpefnlpbjnjbaaGreat

namespace Go.Proofs.YtgpefnlpbjnjbaaGreat
open Go.ChangeShapes Go.WideShapes Go.ChangeAt Go.RowKit
set_option linter.unusedVariables false

set_option maxRecDepth 100000 in
theorem typed_Con : ∀ (n : Nat) (d : D), Typed Tryz.prog n 167 d → ∃ t : Con, d = Con.d t
  | 0, _, h => by simp [Typed] at h
  | n + 1, d, h => by
    unfold Typed at h
    rw [Tryz.underlying167] at h
    obtain ⟨ds, rfl, h⟩ := h
    match ds, h with
    | [d0, d1], ⟨h0, h1, _⟩ =>
      match n, h0, h1 with
      | n + 1, h0, h1 =>
        unfold Typed at h0
        rw [Tryz.underlying9] at h0
        obtain ⟨x0, rfl⟩ := h0
        obtain ⟨x1, rfl⟩ := typed_Tys (n + 1) d1 h1
        exact ⟨.mk x0 x1, rfl⟩
set_option maxRecDepth 100000 in
theorem typed_Cons : ∀ (n : Nat) (d : D), Typed Tryz.prog n 74 d → ∃ ts : List Con, d = .list (Con.ds ts)
  | 0, _, h => by simp [Typed] at h
  | n + 1, d, h => by
    unfold Typed at h
    rw [Tryz.underlying74] at h
    obtain ⟨ds, rfl, h⟩ := h
    have key : ∀ ds : List D, (∀ x ∈ ds, Typed Tryz.prog n 167 x) → ∃ ts, ds = Con.ds ts := by
      intro ds
      induction ds with
      | nil => exact fun _ => ⟨[], rfl⟩
      | cons x xs ih =>
        intro hx
        obtain ⟨t, ht⟩ := typed_Con n x (hx x (by simp))
        obtain ⟨ts, hts⟩ := ih fun y hy => hx y (by simp [hy])
        exact ⟨t :: ts, by rw [ht, hts]; rfl⟩
    obtain ⟨ts, rfl⟩ := key ds h
    exact ⟨ts, rfl⟩

def tidsCon : List TypeId := [167, 9, 78, 80, 2]
theorem tidsCon_ok : tidsCon.all (okTy Tryz.prog tidsCon) = true := by kernel_rfl -- 167
theorem tidsCon_cells : tidsCon.all (fun t => match Tryz.prog.underlying t with | some (.int _) => Tryz.prog.cellsOf t == 1 | some .bool => Tryz.prog.cellsOf t == 1 | some .string => Tryz.prog.cellsOf t == 1 | some (.slice _) => Tryz.prog.cellsOf t == 1 | _ => true) = true := by kernel_rfl -- 167
set_option maxRecDepth 100000 in
/-- Handed in. -/
theorem arg_Con {H : Type} {enc : TypeId × Value → H} {W : World} {base : Nat} {vv : Value} {d : DataW H} {p : List MemPlace} (hv : Value.okWide Tryz.prog W .any base 167 vv)
    (h : DataW.Trod enc Tryz.prog W 0 (fun _ => true) true 167 vv d p) : ∃ (n : ByteArray) (fs : List Ty) (afs : Option Addr) (cfs : Nat), vv = .agg #[.string n, .slice afs fs.length cfs] ∧ RdS W (Con.d (Con.mk n fs)) [.string n, .slice afs fs.length cfs] := by
  obtain ⟨cs, rfl, _⟩ := okWide_struct Tryz.underlying167 hv
  obtain ⟨fuel, hf⟩ := h
  obtain ⟨_, d', F, h1, h2⟩ := trod_rd tidsCon_ok tidsCon_cells fuel _ _ _ (by simp [tidsCon]) hf
  obtain ⟨⟨n, fs⟩, rfl⟩ := typed_Con _ _ h2
  obtain ⟨afs, cfs, hc, -⟩ := h1.Con_inv
  rw [hc] at h1
  refine ⟨n, fs, afs, cfs, ?_, ⟨F, h1⟩⟩
  have : cs = #[.string n, .slice afs fs.length cfs] := by
    apply Array.toList_inj.1
    simpa [Value.cells] using hc
  rw [this]
def tidsCons : List TypeId := [74, 167, 9, 78, 80, 2]
theorem tidsCons_ok : tidsCons.all (okTy Tryz.prog tidsCons) = true := by kernel_rfl -- 74
theorem tidsCons_cells : tidsCons.all (fun t => match Tryz.prog.underlying t with | some (.int _) => Tryz.prog.cellsOf t == 1 | some .bool => Tryz.prog.cellsOf t == 1 | some .string => Tryz.prog.cellsOf t == 1 | some (.slice _) => Tryz.prog.cellsOf t == 1 | _ => true) = true := by kernel_rfl -- 74
set_option maxRecDepth 100000 in
/-- Handed in. -/
theorem arg_Cons {H : Type} {enc : TypeId × Value → H} {W : World} {base : Nat} {vv : Value} {d : DataW H} {p : List MemPlace} (hv : Value.okWide Tryz.prog W .any base 74 vv)
    (h : DataW.Trod enc Tryz.prog W 0 (fun _ => true) true 74 vv d p) : ∃ (ts : List Con) (a : Option Addr) (c : Nat), vv = .slice a ts.length c ∧ RdL W (Con.ds ts) (.slice a ts.length c) := by
  obtain ⟨_, _, _, rfl⟩ := okWide_slice Tryz.underlying74 hv
  obtain ⟨fuel, hf⟩ := h
  obtain ⟨_, d', F, h1, h2⟩ := trod_rd tidsCons_ok tidsCons_cells fuel _ _ _ (by simp [tidsCons]) hf
  obtain ⟨ts, rfl⟩ := typed_Cons _ _ h2
  obtain ⟨a, cap, hc, -⟩ := h1.list_inv
  rw [Con.ds_length] at hc
  simp only [Value.cells, List.cons.injEq, and_true] at hc
  rw [hc] at h1 ⊢
  exact ⟨ts, a, cap, rfl, F, h1⟩

end Go.Proofs.YtgpefnlpbjnjbaaGreat

namespace Go.Proofs.YtgpefnlpbjnjbaaGreat
open Go.ChangeShapes Go.WideShapes Go.ChangeAt Go.RowKit
set_option linter.unusedVariables false

set_option maxRecDepth 100000 in
theorem typed_Dat : ∀ (n : Nat) (d : D), Typed Tryz.prog n 76 d → ∃ t : Dat, d = Dat.d t
  | 0, _, h => by simp [Typed] at h
  | n + 1, d, h => by
    unfold Typed at h
    rw [Tryz.underlying76] at h
    obtain ⟨ds, rfl, h⟩ := h
    match ds, h with
    | [d0, d1], ⟨h0, h1, _⟩ =>
      match n, h0, h1 with
      | n + 1, h0, h1 =>
        unfold Typed at h0
        rw [Tryz.underlying9] at h0
        obtain ⟨x0, rfl⟩ := h0
        obtain ⟨x1, rfl⟩ := typed_Cons (n + 1) d1 h1
        exact ⟨.mk x0 x1, rfl⟩
set_option maxRecDepth 100000 in
theorem typed_Dats : ∀ (n : Nat) (d : D), Typed Tryz.prog n 22 d → ∃ ts : List Dat, d = .list (Dat.ds ts)
  | 0, _, h => by simp [Typed] at h
  | n + 1, d, h => by
    unfold Typed at h
    rw [Tryz.underlying22] at h
    obtain ⟨ds, rfl, h⟩ := h
    have key : ∀ ds : List D, (∀ x ∈ ds, Typed Tryz.prog n 76 x) → ∃ ts, ds = Dat.ds ts := by
      intro ds
      induction ds with
      | nil => exact fun _ => ⟨[], rfl⟩
      | cons x xs ih =>
        intro hx
        obtain ⟨t, ht⟩ := typed_Dat n x (hx x (by simp))
        obtain ⟨ts, hts⟩ := ih fun y hy => hx y (by simp [hy])
        exact ⟨t :: ts, by rw [ht, hts]; rfl⟩
    obtain ⟨ts, rfl⟩ := key ds h
    exact ⟨ts, rfl⟩

def tidsDat : List TypeId := [76, 9, 74, 167, 78, 80, 2]
theorem tidsDat_ok : tidsDat.all (okTy Tryz.prog tidsDat) = true := by kernel_rfl -- 76
theorem tidsDat_cells : tidsDat.all (fun t => match Tryz.prog.underlying t with | some (.int _) => Tryz.prog.cellsOf t == 1 | some .bool => Tryz.prog.cellsOf t == 1 | some .string => Tryz.prog.cellsOf t == 1 | some (.slice _) => Tryz.prog.cellsOf t == 1 | _ => true) = true := by kernel_rfl -- 76
set_option maxRecDepth 100000 in
/-- Handed in. -/
theorem arg_Dat {H : Type} {enc : TypeId × Value → H} {W : World} {base : Nat} {vv : Value} {d : DataW H} {p : List MemPlace} (hv : Value.okWide Tryz.prog W .any base 76 vv)
    (h : DataW.Trod enc Tryz.prog W 0 (fun _ => true) true 76 vv d p) : ∃ (n : ByteArray) (qs : List Con) (aqs : Option Addr) (cqs : Nat), vv = .agg #[.string n, .slice aqs qs.length cqs] ∧ RdS W (Dat.d (Dat.mk n qs)) [.string n, .slice aqs qs.length cqs] := by
  obtain ⟨cs, rfl, _⟩ := okWide_struct Tryz.underlying76 hv
  obtain ⟨fuel, hf⟩ := h
  obtain ⟨_, d', F, h1, h2⟩ := trod_rd tidsDat_ok tidsDat_cells fuel _ _ _ (by simp [tidsDat]) hf
  obtain ⟨⟨n, qs⟩, rfl⟩ := typed_Dat _ _ h2
  obtain ⟨aqs, cqs, hc, -⟩ := h1.Dat_inv
  rw [hc] at h1
  refine ⟨n, qs, aqs, cqs, ?_, ⟨F, h1⟩⟩
  have : cs = #[.string n, .slice aqs qs.length cqs] := by
    apply Array.toList_inj.1
    simpa [Value.cells] using hc
  rw [this]
def tidsDats : List TypeId := [22, 76, 9, 74, 167, 78, 80, 2]
theorem tidsDats_ok : tidsDats.all (okTy Tryz.prog tidsDats) = true := by kernel_rfl -- 22
theorem tidsDats_cells : tidsDats.all (fun t => match Tryz.prog.underlying t with | some (.int _) => Tryz.prog.cellsOf t == 1 | some .bool => Tryz.prog.cellsOf t == 1 | some .string => Tryz.prog.cellsOf t == 1 | some (.slice _) => Tryz.prog.cellsOf t == 1 | _ => true) = true := by kernel_rfl -- 22
set_option maxRecDepth 100000 in
/-- Handed in. -/
theorem arg_Dats {H : Type} {enc : TypeId × Value → H} {W : World} {base : Nat} {vv : Value} {d : DataW H} {p : List MemPlace} (hv : Value.okWide Tryz.prog W .any base 22 vv)
    (h : DataW.Trod enc Tryz.prog W 0 (fun _ => true) true 22 vv d p) : ∃ (ts : List Dat) (a : Option Addr) (c : Nat), vv = .slice a ts.length c ∧ RdL W (Dat.ds ts) (.slice a ts.length c) := by
  obtain ⟨_, _, _, rfl⟩ := okWide_slice Tryz.underlying22 hv
  obtain ⟨fuel, hf⟩ := h
  obtain ⟨_, d', F, h1, h2⟩ := trod_rd tidsDats_ok tidsDats_cells fuel _ _ _ (by simp [tidsDats]) hf
  obtain ⟨ts, rfl⟩ := typed_Dats _ _ h2
  obtain ⟨a, cap, hc, -⟩ := h1.list_inv
  rw [Dat.ds_length] at hc
  simp only [Value.cells, List.cons.injEq, and_true] at hc
  rw [hc] at h1 ⊢
  exact ⟨ts, a, cap, rfl, F, h1⟩

end Go.Proofs.YtgpefnlpbjnjbaaGreat

namespace Go.Proofs.YtgpefnlpbjnjbaaGreat
open Go.ChangeShapes Go.WideShapes Go.ChangeAt Go.RowKit
set_option linter.unusedVariables false

set_option maxRecDepth 100000 in
mutual
theorem typed_Tm : ∀ (n : Nat) (d : D), Typed Tryz.prog n 83 d → ∃ t : Tm, d = Tm.d t
  | 0, _, h => by simp [Typed] at h
  | n + 1, d, h => by
    unfold Typed at h
    rw [Tryz.underlying83] at h
    obtain ⟨ds, rfl, h⟩ := h
    match ds, h with
    | [d0, d1, d2, d3, d4, d5], ⟨h0, h1, h2, h3, h4, h5, _⟩ =>
      match n, h0, h1, h2, h3, h4, h5 with
      | n + 1, h0, h1, h2, h3, h4, h5 =>
        unfold Typed at h0
        rw [Tryz.underlying2] at h0
        obtain ⟨x0, rfl⟩ := h0
        unfold Typed at h1
        rw [Tryz.underlying2] at h1
        obtain ⟨x1, rfl⟩ := h1
        unfold Typed at h2
        rw [Tryz.underlying9] at h2
        obtain ⟨x2, rfl⟩ := h2
        obtain ⟨x3, rfl⟩ := typed_Ty (n + 1) d3 h3
        obtain ⟨x4, rfl⟩ := typed_Srs (n + 1) d4 h4
        obtain ⟨x5, rfl⟩ := typed_Tms (n + 1) d5 h5
        exact ⟨.mk x0 x1 x2 x3 x4 x5, rfl⟩
theorem typed_Tms : ∀ (n : Nat) (d : D), Typed Tryz.prog n 81 d → ∃ ts : List Tm, d = .list (Tm.ds ts)
  | 0, _, h => by simp [Typed] at h
  | n + 1, d, h => by
    unfold Typed at h
    rw [Tryz.underlying81] at h
    obtain ⟨ds, rfl, h⟩ := h
    have key : ∀ ds : List D, (∀ x ∈ ds, Typed Tryz.prog n 83 x) → ∃ ts, ds = Tm.ds ts := by
      intro ds
      induction ds with
      | nil => exact fun _ => ⟨[], rfl⟩
      | cons x xs ih =>
        intro hx
        obtain ⟨t, ht⟩ := typed_Tm n x (hx x (by simp))
        obtain ⟨ts, hts⟩ := ih fun y hy => hx y (by simp [hy])
        exact ⟨t :: ts, by rw [ht, hts]; rfl⟩
    obtain ⟨ts, rfl⟩ := key ds h
    exact ⟨ts, rfl⟩
end

def tidsTm : List TypeId := [83, 2, 9, 80, 78, 60, 81]
theorem tidsTm_ok : tidsTm.all (okTy Tryz.prog tidsTm) = true := by kernel_rfl -- 83
theorem tidsTm_cells : tidsTm.all (fun t => match Tryz.prog.underlying t with | some (.int _) => Tryz.prog.cellsOf t == 1 | some .bool => Tryz.prog.cellsOf t == 1 | some .string => Tryz.prog.cellsOf t == 1 | some (.slice _) => Tryz.prog.cellsOf t == 1 | _ => true) = true := by kernel_rfl -- 83
set_option maxRecDepth 100000 in
/-- Handed in. -/
theorem arg_Tm {H : Type} {enc : TypeId × Value → H} {W : World} {base : Nat} {vv : Value} {d : DataW H} {p : List MemPlace} (hv : Value.okWide Tryz.prog W .any base 83 vv)
    (h : DataW.Trod enc Tryz.prog W 0 (fun _ => true) true 83 vv d p) : ∃ (k : Int) (u : Int) (n : ByteArray) (tk : Int) (tn : ByteArray) (tks : List Ty) (ns : List ByteArray) (ks : List Tm) (atks : Option Addr) (ctks : Nat) (ans : Option Addr) (cns : Nat) (aks : Option Addr) (cks : Nat), vv = .agg #[.int .i64 k, .int .i64 u, .string n, .int .i64 tk, .string tn, .slice atks tks.length ctks, .slice ans ns.length cns, .slice aks ks.length cks] ∧ RdS W (Tm.d (Tm.mk k u n (Ty.mk tk tn tks) ns ks)) [.int .i64 k, .int .i64 u, .string n, .int .i64 tk, .string tn, .slice atks tks.length ctks, .slice ans ns.length cns, .slice aks ks.length cks] := by
  obtain ⟨cs, rfl, _⟩ := okWide_struct Tryz.underlying83 hv
  obtain ⟨fuel, hf⟩ := h
  obtain ⟨_, d', F, h1, h2⟩ := trod_rd tidsTm_ok tidsTm_cells fuel _ _ _ (by simp [tidsTm]) hf
  obtain ⟨⟨k, u, n, ⟨tk, tn, tks⟩, ns, ks⟩, rfl⟩ := typed_Tm _ _ h2
  obtain ⟨atks, ctks, ans, cns, aks, cks, hc, -⟩ := h1.Tm_inv
  rw [hc] at h1
  refine ⟨k, u, n, tk, tn, tks, ns, ks, atks, ctks, ans, cns, aks, cks, ?_, ⟨F, h1⟩⟩
  have : cs = #[.int .i64 k, .int .i64 u, .string n, .int .i64 tk, .string tn, .slice atks tks.length ctks, .slice ans ns.length cns, .slice aks ks.length cks] := by
    apply Array.toList_inj.1
    simpa [Value.cells] using hc
  rw [this]
def tidsTms : List TypeId := [81, 83, 2, 9, 80, 78, 60]
theorem tidsTms_ok : tidsTms.all (okTy Tryz.prog tidsTms) = true := by kernel_rfl -- 81
theorem tidsTms_cells : tidsTms.all (fun t => match Tryz.prog.underlying t with | some (.int _) => Tryz.prog.cellsOf t == 1 | some .bool => Tryz.prog.cellsOf t == 1 | some .string => Tryz.prog.cellsOf t == 1 | some (.slice _) => Tryz.prog.cellsOf t == 1 | _ => true) = true := by kernel_rfl -- 81
set_option maxRecDepth 100000 in
/-- Handed in. -/
theorem arg_Tms {H : Type} {enc : TypeId × Value → H} {W : World} {base : Nat} {vv : Value} {d : DataW H} {p : List MemPlace} (hv : Value.okWide Tryz.prog W .any base 81 vv)
    (h : DataW.Trod enc Tryz.prog W 0 (fun _ => true) true 81 vv d p) : ∃ (ts : List Tm) (a : Option Addr) (c : Nat), vv = .slice a ts.length c ∧ RdL W (Tm.ds ts) (.slice a ts.length c) := by
  obtain ⟨_, _, _, rfl⟩ := okWide_slice Tryz.underlying81 hv
  obtain ⟨fuel, hf⟩ := h
  obtain ⟨_, d', F, h1, h2⟩ := trod_rd tidsTms_ok tidsTms_cells fuel _ _ _ (by simp [tidsTms]) hf
  obtain ⟨ts, rfl⟩ := typed_Tms _ _ h2
  obtain ⟨a, cap, hc, -⟩ := h1.list_inv
  rw [Tm.ds_length] at hc
  simp only [Value.cells, List.cons.injEq, and_true] at hc
  rw [hc] at h1 ⊢
  exact ⟨ts, a, cap, rfl, F, h1⟩

end Go.Proofs.YtgpefnlpbjnjbaaGreat

namespace Go.Proofs.YtgpefnlpbjnjbaaGreat
open Go.ChangeShapes Go.WideShapes Go.ChangeAt Go.RowKit
set_option linter.unusedVariables false

set_option maxRecDepth 100000 in
theorem typed_Df : ∀ (n : Nat) (d : D), Typed Tryz.prog n 85 d → ∃ t : Df, d = Df.d t
  | 0, _, h => by simp [Typed] at h
  | n + 1, d, h => by
    unfold Typed at h
    rw [Tryz.underlying85] at h
    obtain ⟨ds, rfl, h⟩ := h
    match ds, h with
    | [d0, d1, d2], ⟨h0, h1, h2, _⟩ =>
      match n, h0, h1, h2 with
      | n + 1, h0, h1, h2 =>
        unfold Typed at h0
        rw [Tryz.underlying9] at h0
        obtain ⟨x0, rfl⟩ := h0
        obtain ⟨x1, rfl⟩ := typed_Ty (n + 1) d1 h1
        obtain ⟨x2, rfl⟩ := typed_Tm (n + 1) d2 h2
        exact ⟨.mk x0 x1 x2, rfl⟩
set_option maxRecDepth 100000 in
theorem typed_Dfs : ∀ (n : Nat) (d : D), Typed Tryz.prog n 23 d → ∃ ts : List Df, d = .list (Df.ds ts)
  | 0, _, h => by simp [Typed] at h
  | n + 1, d, h => by
    unfold Typed at h
    rw [Tryz.underlying23] at h
    obtain ⟨ds, rfl, h⟩ := h
    have key : ∀ ds : List D, (∀ x ∈ ds, Typed Tryz.prog n 85 x) → ∃ ts, ds = Df.ds ts := by
      intro ds
      induction ds with
      | nil => exact fun _ => ⟨[], rfl⟩
      | cons x xs ih =>
        intro hx
        obtain ⟨t, ht⟩ := typed_Df n x (hx x (by simp))
        obtain ⟨ts, hts⟩ := ih fun y hy => hx y (by simp [hy])
        exact ⟨t :: ts, by rw [ht, hts]; rfl⟩
    obtain ⟨ts, rfl⟩ := key ds h
    exact ⟨ts, rfl⟩

def tidsDf : List TypeId := [85, 9, 80, 2, 78, 83, 60, 81]
theorem tidsDf_ok : tidsDf.all (okTy Tryz.prog tidsDf) = true := by kernel_rfl -- 85
theorem tidsDf_cells : tidsDf.all (fun t => match Tryz.prog.underlying t with | some (.int _) => Tryz.prog.cellsOf t == 1 | some .bool => Tryz.prog.cellsOf t == 1 | some .string => Tryz.prog.cellsOf t == 1 | some (.slice _) => Tryz.prog.cellsOf t == 1 | _ => true) = true := by kernel_rfl -- 85
set_option maxRecDepth 100000 in
/-- Handed in. -/
theorem arg_Df {H : Type} {enc : TypeId × Value → H} {W : World} {base : Nat} {vv : Value} {d : DataW H} {p : List MemPlace} (hv : Value.okWide Tryz.prog W .any base 85 vv)
    (h : DataW.Trod enc Tryz.prog W 0 (fun _ => true) true 85 vv d p) : ∃ (n : ByteArray) (tk : Int) (tn : ByteArray) (tks : List Ty) (bk : Int) (bu : Int) (bn : ByteArray) (btk : Int) (btn : ByteArray) (btks : List Ty) (bns : List ByteArray) (bks : List Tm) (atks : Option Addr) (ctks : Nat) (abtks : Option Addr) (cbtks : Nat) (abns : Option Addr) (cbns : Nat) (abks : Option Addr) (cbks : Nat), vv = .agg #[.string n, .int .i64 tk, .string tn, .slice atks tks.length ctks, .int .i64 bk, .int .i64 bu, .string bn, .int .i64 btk, .string btn, .slice abtks btks.length cbtks, .slice abns bns.length cbns, .slice abks bks.length cbks] ∧ RdS W (Df.d (Df.mk n (Ty.mk tk tn tks) (Tm.mk bk bu bn (Ty.mk btk btn btks) bns bks))) [.string n, .int .i64 tk, .string tn, .slice atks tks.length ctks, .int .i64 bk, .int .i64 bu, .string bn, .int .i64 btk, .string btn, .slice abtks btks.length cbtks, .slice abns bns.length cbns, .slice abks bks.length cbks] := by
  obtain ⟨cs, rfl, _⟩ := okWide_struct Tryz.underlying85 hv
  obtain ⟨fuel, hf⟩ := h
  obtain ⟨_, d', F, h1, h2⟩ := trod_rd tidsDf_ok tidsDf_cells fuel _ _ _ (by simp [tidsDf]) hf
  obtain ⟨⟨n, ⟨tk, tn, tks⟩, ⟨bk, bu, bn, ⟨btk, btn, btks⟩, bns, bks⟩⟩, rfl⟩ := typed_Df _ _ h2
  obtain ⟨atks, ctks, abtks, cbtks, abns, cbns, abks, cbks, hc, -⟩ := h1.Df_inv
  rw [hc] at h1
  refine ⟨n, tk, tn, tks, bk, bu, bn, btk, btn, btks, bns, bks, atks, ctks, abtks, cbtks, abns, cbns, abks, cbks, ?_, ⟨F, h1⟩⟩
  have : cs = #[.string n, .int .i64 tk, .string tn, .slice atks tks.length ctks, .int .i64 bk, .int .i64 bu, .string bn, .int .i64 btk, .string btn, .slice abtks btks.length cbtks, .slice abns bns.length cbns, .slice abks bks.length cbks] := by
    apply Array.toList_inj.1
    simpa [Value.cells] using hc
  rw [this]
def tidsDfs : List TypeId := [23, 85, 9, 80, 2, 78, 83, 60, 81]
theorem tidsDfs_ok : tidsDfs.all (okTy Tryz.prog tidsDfs) = true := by kernel_rfl -- 23
theorem tidsDfs_cells : tidsDfs.all (fun t => match Tryz.prog.underlying t with | some (.int _) => Tryz.prog.cellsOf t == 1 | some .bool => Tryz.prog.cellsOf t == 1 | some .string => Tryz.prog.cellsOf t == 1 | some (.slice _) => Tryz.prog.cellsOf t == 1 | _ => true) = true := by kernel_rfl -- 23
set_option maxRecDepth 100000 in
/-- Handed in. -/
theorem arg_Dfs {H : Type} {enc : TypeId × Value → H} {W : World} {base : Nat} {vv : Value} {d : DataW H} {p : List MemPlace} (hv : Value.okWide Tryz.prog W .any base 23 vv)
    (h : DataW.Trod enc Tryz.prog W 0 (fun _ => true) true 23 vv d p) : ∃ (ts : List Df) (a : Option Addr) (c : Nat), vv = .slice a ts.length c ∧ RdL W (Df.ds ts) (.slice a ts.length c) := by
  obtain ⟨_, _, _, rfl⟩ := okWide_slice Tryz.underlying23 hv
  obtain ⟨fuel, hf⟩ := h
  obtain ⟨_, d', F, h1, h2⟩ := trod_rd tidsDfs_ok tidsDfs_cells fuel _ _ _ (by simp [tidsDfs]) hf
  obtain ⟨ts, rfl⟩ := typed_Dfs _ _ h2
  obtain ⟨a, cap, hc, -⟩ := h1.list_inv
  rw [Df.ds_length] at hc
  simp only [Value.cells, List.cons.injEq, and_true] at hc
  rw [hc] at h1 ⊢
  exact ⟨ts, a, cap, rfl, F, h1⟩

end Go.Proofs.YtgpefnlpbjnjbaaGreat

namespace Go.Proofs.YtgpefnlpbjnjbaaGreat
open Go.ChangeShapes Go.WideShapes Go.ChangeAt Go.RowKit
set_option linter.unusedVariables false

set_option maxRecDepth 100000 in
theorem typed_Pg : ∀ (n : Nat) (d : D), Typed Tryz.prog n 25 d → ∃ t : Pg, d = Pg.d t
  | 0, _, h => by simp [Typed] at h
  | n + 1, d, h => by
    unfold Typed at h
    rw [Tryz.underlying25] at h
    obtain ⟨ds, rfl, h⟩ := h
    match ds, h with
    | [d0, d1], ⟨h0, h1, _⟩ =>
      match n, h0, h1 with
      | n + 1, h0, h1 =>
        obtain ⟨x0, rfl⟩ := typed_Dats (n + 1) d0 h0
        obtain ⟨x1, rfl⟩ := typed_Dfs (n + 1) d1 h1
        exact ⟨.mk x0 x1, rfl⟩
def tidsPg : List TypeId := [25, 22, 76, 9, 74, 167, 78, 80, 2, 23, 85, 83, 60, 81]
theorem tidsPg_ok : tidsPg.all (okTy Tryz.prog tidsPg) = true := by kernel_rfl -- 25
theorem tidsPg_cells : tidsPg.all (fun t => match Tryz.prog.underlying t with | some (.int _) => Tryz.prog.cellsOf t == 1 | some .bool => Tryz.prog.cellsOf t == 1 | some .string => Tryz.prog.cellsOf t == 1 | some (.slice _) => Tryz.prog.cellsOf t == 1 | _ => true) = true := by kernel_rfl -- 25
set_option maxRecDepth 100000 in
/-- Handed in. -/
theorem arg_Pg {H : Type} {enc : TypeId × Value → H} {W : World} {base : Nat} {vv : Value} {d : DataW H} {p : List MemPlace} (hv : Value.okWide Tryz.prog W .any base 25 vv)
    (h : DataW.Trod enc Tryz.prog W 0 (fun _ => true) true 25 vv d p) : ∃ (ds : List Dat) (fs : List Df) (ads : Option Addr) (cds : Nat) (afs : Option Addr) (cfs : Nat), vv = .agg #[.slice ads ds.length cds, .slice afs fs.length cfs] ∧ RdS W (Pg.d (Pg.mk ds fs)) [.slice ads ds.length cds, .slice afs fs.length cfs] := by
  obtain ⟨cs, rfl, _⟩ := okWide_struct Tryz.underlying25 hv
  obtain ⟨fuel, hf⟩ := h
  obtain ⟨_, d', F, h1, h2⟩ := trod_rd tidsPg_ok tidsPg_cells fuel _ _ _ (by simp [tidsPg]) hf
  obtain ⟨⟨ds, fs⟩, rfl⟩ := typed_Pg _ _ h2
  obtain ⟨ads, cds, afs, cfs, hc, -⟩ := h1.Pg_inv
  rw [hc] at h1
  refine ⟨ds, fs, ads, cds, afs, cfs, ?_, ⟨F, h1⟩⟩
  have : cs = #[.slice ads ds.length cds, .slice afs fs.length cfs] := by
    apply Array.toList_inj.1
    simpa [Value.cells] using hc
  rw [this]
end Go.Proofs.YtgpefnlpbjnjbaaGreat

namespace Go.Proofs.YtgpefnlpbjnjbaaGreat
open Go.ChangeShapes Go.WideShapes Go.ChangeAt Go.RowKit
open Go.Sort (grow)
set_option linter.unusedVariables false

abbrev SzCon : Prop := ∀ (n : ByteArray) (fs : List Ty) (afs : Option Addr) (cfs : Nat) (left : Int) (w : World), RdS w (Con.d (Con.mk n fs)) [.string n, .slice afs fs.length cfs] → 0 ≤ left → left ≤ 1048576 →
  Calls Tryz.prog 122 #[.agg #[.string n, .slice afs fs.length cfs], .int .i64 left] w fun e w' => e = .returned (.int .i64 (purse left (Con.bulk (Con.mk n fs)))) ∧ Below w.heap.size w w'
theorem szCon : SzCon := by
  intro n fs afs cfs left w hr h0 h1
  have hbk : Con.bulk (Con.mk n fs) = n.size + Ty.bulks fs := rfl
  obtain ⟨zn, hfs⟩ := hr.fCon
  by_cases hp0 : ((n.size : Nat) : Int) ≤ left
  case neg =>
    have HBK := hid hbk
    have HX0 := hid ((Boxes.nil w).alloc #[.string n, .slice afs fs.length cfs] 167 (0, 0))
    have hbw0 : Below w.heap.size w (w.alloc (.cells #[.string n, .slice afs fs.length cfs] 167)) := (Below.refl _ _).alloc (Nat.le_refl _) _
    have HBW := hid hbw0
    clear hr hbk hbw0 hfs
    go_enter Tryz.func122, Tryz.ntmps122
    go_wp2_with fail
    go_ret
    exact ⟨ret_int (by rw [purse_no (by have := HBK.out; omega)]), HBW.out⟩
  case pos =>
    skip
    have hc1 := fun (W : World) (hb : Below w.heap.size w W) => (szTys fs afs cfs (left - n.size) W (hfs.below hb) (by omega) (by omega))
    by_cases hp1 : ((Ty.bulks fs : Nat) : Int) ≤ left - n.size
    case neg =>
      rw [purse_no hp1] at hc1
      have HC1 := hid hc1
      have HBK := hid hbk
      have HX0 := hid ((Boxes.nil w).alloc #[.string n, .slice afs fs.length cfs] 167 (0, 0))
      have hbw0 : Below w.heap.size w (w.alloc (.cells #[.string n, .slice afs fs.length cfs] 167)) := (Below.refl _ _).alloc (Nat.le_refl _) _
      have HBW := hid hbw0
      clear hr hbk hbw0 hc1 hfs
      go_enter Tryz.func122, Tryz.ntmps122
      go_wp2_with fail
      refine (HC1.out _ HBW.out).mono ?_
      rintro e w1 ⟨rfl, hb1⟩
      have hbw1 := HBW.out.trans (hb1.mono (by simp))
      have hx1 := HX0.out.below hb1
      have HX1 := hid hx1
      clear hx1 hb1 HC1
      go_wp2_with fail
      go_ret
      exact ⟨ret_int (by rw [purse_no (by have := HBK.out; omega)]), hbw1⟩
    case pos =>
      rw [purse_ok hp1] at hc1
      have HC1 := hid hc1
      have HBK := hid hbk
      have HX0 := hid ((Boxes.nil w).alloc #[.string n, .slice afs fs.length cfs] 167 (0, 0))
      have hbw0 : Below w.heap.size w (w.alloc (.cells #[.string n, .slice afs fs.length cfs] 167)) := (Below.refl _ _).alloc (Nat.le_refl _) _
      have HBW := hid hbw0
      clear hr hbk hbw0 hc1 hfs
      go_enter Tryz.func122, Tryz.ntmps122
      go_wp2_with fail
      refine (HC1.out _ HBW.out).mono ?_
      rintro e w1 ⟨rfl, hb1⟩
      have hbw1 := HBW.out.trans (hb1.mono (by simp))
      have hx1 := HX0.out.below hb1
      have HX1 := hid hx1
      clear hx1 hb1 HC1
      go_wp2_with fail
      go_ret
      exact ⟨ret_int (by rw [purse_ok (by have := HBK.out; omega)]; have := HBK.out; omega), hbw1⟩

theorem szCons (ts : List Con) (a : Option Addr) (c : Nat) (left : Int) (w : World) (hr : RdL w (Con.ds ts) (.slice a ts.length c)) (h0 : 0 ≤ left) (h1 : left ≤ 1048576) :
    Calls Tryz.prog 77 #[.slice a ts.length c, .int .i64 left] w fun e w' => e = .returned (.int .i64 (purse left (Con.bulks ts))) ∧ Below w.heap.size w w' := by
  obtain ⟨_, _, e, h2, h3, h4⟩ := hr.eCon
  simp only [Value.slice.injEq, true_and] at e
  obtain ⟨rfl, rfl⟩ := e
  have hl := Con.bulks_length ts
  skip
  have H4 := hid h4
  clear hr h4 
  by_cases hs : left < ts.length
  · rw [purse_no (by omega)]
    go_enter Tryz.func77, Tryz.ntmps77
    go_wp2_with fail
    go_ret
    exact ⟨rfl, Below.refl _ _⟩
  · have hd0 : decide (left - (ts.length : Int) < 0) = false := by simp; omega
    go_enter Tryz.func77, Tryz.ntmps77
    go_wp2_with fail
    go_loopw [1, 5] (fun l i wr => ∃ (j : Nat) (L : Int), j ≤ ts.length ∧ i = .int .i64 j ∧ l = .int .i64 L ∧ Hid (L + (Con.bulks (ts.take j) + ts.length : Nat) = left + j) ∧ 0 ≤ L ∧ L ≤ 1048576 ∧ Below w.heap.size w wr) (fun _ i _ => ts.length - (intOf i).toNat)
    case atStart => exact ⟨0, left - ts.length, by omega, rfl, rfl, by show _ = _; simp [Con.bulks], by omega, by omega, Below.refl _ _⟩
    case round =>
      obtain ⟨j, L, hj, rfl, rfl, HL, hL0, hL1, hb⟩ := hrel
      by_cases hlt : j < ts.length
      · obtain ⟨b, o, rfl, hbl, hall⟩ := H4.out (by omega)
        obtain ⟨t, ht⟩ : ∃ t, ts[j]? = some t := ⟨_, List.getElem?_eq_getElem hlt⟩
        obtain ⟨n1, fs1⟩ := t
        obtain ⟨afs1, cfs1, q0, q1, hrk⟩ := hall j n1 fs1 ht
        clear hall H4
        have d0 := (hb.cell (p := ⟨b, o + j * 2, none⟩) hbl).trans q0
        have d1 := (hb.cell (p := ⟨b, o + j * 2 + 1, none⟩) hbl).trans q1
        have HT := hid ht
        have hc := szCon n1 fs1 afs1 cfs1 L wr (hrk.below hb) hL0 hL1
        have hst := Con.bulks_take ts j _ ht
        have hle := Con.bulks_le ts (j + 1)
        by_cases hp : ((Con.bulk (Con.mk n1 fs1) : Nat) : Int) ≤ L
        · rw [purse_ok hp] at hc
          have HC := hid hc
          have HS := hid hst
          clear ht hrk q0 q1 hc hst
          go_wp2_with fail
          refine HC.out.mono ?_
          clear HC
          rintro e w1 ⟨rfl, hb1⟩
          go_wp2_with fail
          go_roundw
          case rel => exact ⟨j + 1, _, by omega, by go_num, rfl, by show _ = _; have := HL.out; have := HS.out; omega, by omega, by omega, hb.trans (hb1.mono hb.size)⟩
          case measure => simp [intOf]; omega
        · rw [purse_no hp] at hc
          have HC := hid hc
          have HS := hid hst
          clear ht hrk q0 q1 hc hst
          go_wp2_with fail
          refine HC.out.mono ?_
          clear HC
          rintro e w1 ⟨rfl, hb1⟩
          go_wp2_with fail
          go_ret
          exact ⟨ret_int (by rw [purse_no (by have := HL.out; have := HS.out; omega)]), hb.trans (hb1.mono hb.size)⟩
      · obtain rfl : j = ts.length := by omega
        rw [List.take_length] at HL
        go_wp2_with fail
        go_ret
        exact ⟨ret_int (by rw [purse_ok (by have := HL.out; omega)]; have := HL.out; omega), hb⟩

end Go.Proofs.YtgpefnlpbjnjbaaGreat

namespace Go.Proofs.YtgpefnlpbjnjbaaGreat
open Go.ChangeShapes Go.WideShapes Go.ChangeAt Go.RowKit
open Go.Sort (grow)
set_option linter.unusedVariables false

abbrev SzDat : Prop := ∀ (n : ByteArray) (qs : List Con) (aqs : Option Addr) (cqs : Nat) (left : Int) (w : World), RdS w (Dat.d (Dat.mk n qs)) [.string n, .slice aqs qs.length cqs] → 0 ≤ left → left ≤ 1048576 →
  Calls Tryz.prog 42 #[.agg #[.string n, .slice aqs qs.length cqs], .int .i64 left] w fun e w' => e = .returned (.int .i64 (purse left (Dat.bulk (Dat.mk n qs)))) ∧ Below w.heap.size w w'
theorem szDat : SzDat := by
  intro n qs aqs cqs left w hr h0 h1
  have hbk : Dat.bulk (Dat.mk n qs) = n.size + Con.bulks qs := rfl
  obtain ⟨zn, hqs⟩ := hr.fDat
  by_cases hp0 : ((n.size : Nat) : Int) ≤ left
  case neg =>
    have HBK := hid hbk
    have HX0 := hid ((Boxes.nil w).alloc #[.string n, .slice aqs qs.length cqs] 76 (0, 0))
    have hbw0 : Below w.heap.size w (w.alloc (.cells #[.string n, .slice aqs qs.length cqs] 76)) := (Below.refl _ _).alloc (Nat.le_refl _) _
    have HBW := hid hbw0
    clear hr hbk hbw0 hqs
    go_enter Tryz.func42, Tryz.ntmps42
    go_wp2_with fail
    go_ret
    exact ⟨ret_int (by rw [purse_no (by have := HBK.out; omega)]), HBW.out⟩
  case pos =>
    skip
    have hc1 := fun (W : World) (hb : Below w.heap.size w W) => (szCons qs aqs cqs (left - n.size) W (hqs.below hb) (by omega) (by omega))
    by_cases hp1 : ((Con.bulks qs : Nat) : Int) ≤ left - n.size
    case neg =>
      rw [purse_no hp1] at hc1
      have HC1 := hid hc1
      have HBK := hid hbk
      have HX0 := hid ((Boxes.nil w).alloc #[.string n, .slice aqs qs.length cqs] 76 (0, 0))
      have hbw0 : Below w.heap.size w (w.alloc (.cells #[.string n, .slice aqs qs.length cqs] 76)) := (Below.refl _ _).alloc (Nat.le_refl _) _
      have HBW := hid hbw0
      clear hr hbk hbw0 hc1 hqs
      go_enter Tryz.func42, Tryz.ntmps42
      go_wp2_with fail
      refine (HC1.out _ HBW.out).mono ?_
      rintro e w1 ⟨rfl, hb1⟩
      have hbw1 := HBW.out.trans (hb1.mono (by simp))
      have hx1 := HX0.out.below hb1
      have HX1 := hid hx1
      clear hx1 hb1 HC1
      go_wp2_with fail
      go_ret
      exact ⟨ret_int (by rw [purse_no (by have := HBK.out; omega)]), hbw1⟩
    case pos =>
      rw [purse_ok hp1] at hc1
      have HC1 := hid hc1
      have HBK := hid hbk
      have HX0 := hid ((Boxes.nil w).alloc #[.string n, .slice aqs qs.length cqs] 76 (0, 0))
      have hbw0 : Below w.heap.size w (w.alloc (.cells #[.string n, .slice aqs qs.length cqs] 76)) := (Below.refl _ _).alloc (Nat.le_refl _) _
      have HBW := hid hbw0
      clear hr hbk hbw0 hc1 hqs
      go_enter Tryz.func42, Tryz.ntmps42
      go_wp2_with fail
      refine (HC1.out _ HBW.out).mono ?_
      rintro e w1 ⟨rfl, hb1⟩
      have hbw1 := HBW.out.trans (hb1.mono (by simp))
      have hx1 := HX0.out.below hb1
      have HX1 := hid hx1
      clear hx1 hb1 HC1
      go_wp2_with fail
      go_ret
      exact ⟨ret_int (by rw [purse_ok (by have := HBK.out; omega)]; have := HBK.out; omega), hbw1⟩

theorem szDats (ts : List Dat) (a : Option Addr) (c : Nat) (left : Int) (w : World) (hr : RdL w (Dat.ds ts) (.slice a ts.length c)) (h0 : 0 ≤ left) (h1 : left ≤ 1048576) :
    Calls Tryz.prog 19 #[.slice a ts.length c, .int .i64 left] w fun e w' => e = .returned (.int .i64 (purse left (Dat.bulks ts))) ∧ Below w.heap.size w w' := by
  obtain ⟨_, _, e, h2, h3, h4⟩ := hr.eDat
  simp only [Value.slice.injEq, true_and] at e
  obtain ⟨rfl, rfl⟩ := e
  have hl := Dat.bulks_length ts
  skip
  have H4 := hid h4
  clear hr h4 
  by_cases hs : left < ts.length
  · rw [purse_no (by omega)]
    go_enter Tryz.func19, Tryz.ntmps19
    go_wp2_with fail
    go_ret
    exact ⟨rfl, Below.refl _ _⟩
  · have hd0 : decide (left - (ts.length : Int) < 0) = false := by simp; omega
    go_enter Tryz.func19, Tryz.ntmps19
    go_wp2_with fail
    go_loopw [1, 5] (fun l i wr => ∃ (j : Nat) (L : Int), j ≤ ts.length ∧ i = .int .i64 j ∧ l = .int .i64 L ∧ Hid (L + (Dat.bulks (ts.take j) + ts.length : Nat) = left + j) ∧ 0 ≤ L ∧ L ≤ 1048576 ∧ Below w.heap.size w wr) (fun _ i _ => ts.length - (intOf i).toNat)
    case atStart => exact ⟨0, left - ts.length, by omega, rfl, rfl, by show _ = _; simp [Dat.bulks], by omega, by omega, Below.refl _ _⟩
    case round =>
      obtain ⟨j, L, hj, rfl, rfl, HL, hL0, hL1, hb⟩ := hrel
      by_cases hlt : j < ts.length
      · obtain ⟨b, o, rfl, hbl, hall⟩ := H4.out (by omega)
        obtain ⟨t, ht⟩ : ∃ t, ts[j]? = some t := ⟨_, List.getElem?_eq_getElem hlt⟩
        obtain ⟨n1, qs1⟩ := t
        obtain ⟨aqs1, cqs1, q0, q1, hrk⟩ := hall j n1 qs1 ht
        clear hall H4
        have d0 := (hb.cell (p := ⟨b, o + j * 2, none⟩) hbl).trans q0
        have d1 := (hb.cell (p := ⟨b, o + j * 2 + 1, none⟩) hbl).trans q1
        have HT := hid ht
        have hc := szDat n1 qs1 aqs1 cqs1 L wr (hrk.below hb) hL0 hL1
        have hst := Dat.bulks_take ts j _ ht
        have hle := Dat.bulks_le ts (j + 1)
        by_cases hp : ((Dat.bulk (Dat.mk n1 qs1) : Nat) : Int) ≤ L
        · rw [purse_ok hp] at hc
          have HC := hid hc
          have HS := hid hst
          clear ht hrk q0 q1 hc hst
          go_wp2_with fail
          refine HC.out.mono ?_
          clear HC
          rintro e w1 ⟨rfl, hb1⟩
          go_wp2_with fail
          go_roundw
          case rel => exact ⟨j + 1, _, by omega, by go_num, rfl, by show _ = _; have := HL.out; have := HS.out; omega, by omega, by omega, hb.trans (hb1.mono hb.size)⟩
          case measure => simp [intOf]; omega
        · rw [purse_no hp] at hc
          have HC := hid hc
          have HS := hid hst
          clear ht hrk q0 q1 hc hst
          go_wp2_with fail
          refine HC.out.mono ?_
          clear HC
          rintro e w1 ⟨rfl, hb1⟩
          go_wp2_with fail
          go_ret
          exact ⟨ret_int (by rw [purse_no (by have := HL.out; have := HS.out; omega)]), hb.trans (hb1.mono hb.size)⟩
      · obtain rfl : j = ts.length := by omega
        rw [List.take_length] at HL
        go_wp2_with fail
        go_ret
        exact ⟨ret_int (by rw [purse_ok (by have := HL.out; omega)]; have := HL.out; omega), hb⟩

end Go.Proofs.YtgpefnlpbjnjbaaGreat

namespace Go.Proofs.YtgpefnlpbjnjbaaGreat
open Go.ChangeShapes Go.WideShapes Go.ChangeAt Go.RowKit
open Go.Sort (grow)
set_option linter.unusedVariables false

abbrev SzPg : Prop := ∀ (ds : List Dat) (fs : List Df) (ads : Option Addr) (cds : Nat) (afs : Option Addr) (cfs : Nat) (left : Int) (w : World), RdS w (Pg.d (Pg.mk ds fs)) [.slice ads ds.length cds, .slice afs fs.length cfs] → 0 ≤ left → left ≤ 1048576 →
  Calls Tryz.prog 6 #[.agg #[.slice ads ds.length cds, .slice afs fs.length cfs], .int .i64 left] w fun e w' => e = .returned (.int .i64 (purse left (Pg.bulk (Pg.mk ds fs)))) ∧ Below w.heap.size w w'
theorem szPg : SzPg := by
  intro ds fs ads cds afs cfs left w hr h0 h1
  have hbk : Pg.bulk (Pg.mk ds fs) = Dat.bulks ds + Df.bulks fs := rfl
  obtain ⟨hds, hfs⟩ := hr.fPg
  have hc0 := fun (W : World) (hb : Below w.heap.size w W) => (szDats ds ads cds (left) W (hds.below hb) (by omega) (by omega))
  by_cases hp0 : ((Dat.bulks ds : Nat) : Int) ≤ left
  case neg =>
    rw [purse_no hp0] at hc0
    have HC0 := hid hc0
    have HBK := hid hbk
    have HX0 := hid ((Boxes.nil w).alloc #[.slice ads ds.length cds, .slice afs fs.length cfs] 25 (0, 0))
    have hbw0 : Below w.heap.size w (w.alloc (.cells #[.slice ads ds.length cds, .slice afs fs.length cfs] 25)) := (Below.refl _ _).alloc (Nat.le_refl _) _
    have HBW := hid hbw0
    clear hr hbk hbw0 hc0 hds hfs
    go_enter Tryz.func6, Tryz.ntmps6
    go_wp2_with fail
    refine (HC0.out _ HBW.out).mono ?_
    rintro e w1 ⟨rfl, hb1⟩
    have hbw1 := HBW.out.trans (hb1.mono (by simp))
    have hx1 := HX0.out.below hb1
    have HX1 := hid hx1
    clear hx1 hb1 HC0
    go_wp2_with fail
    go_ret
    exact ⟨ret_int (by rw [purse_no (by have := HBK.out; omega)]), hbw1⟩
  case pos =>
    rw [purse_ok hp0] at hc0
    have hc1 := fun (W : World) (hb : Below w.heap.size w W) => (szDfs fs afs cfs (left - (Dat.bulks ds : Nat)) W (hfs.below hb) (by omega) (by omega))
    by_cases hp1 : ((Df.bulks fs : Nat) : Int) ≤ left - (Dat.bulks ds : Nat)
    case neg =>
      rw [purse_no hp1] at hc1
      have HC0 := hid hc0
      have HC1 := hid hc1
      have HBK := hid hbk
      have HX0 := hid ((Boxes.nil w).alloc #[.slice ads ds.length cds, .slice afs fs.length cfs] 25 (0, 0))
      have hbw0 : Below w.heap.size w (w.alloc (.cells #[.slice ads ds.length cds, .slice afs fs.length cfs] 25)) := (Below.refl _ _).alloc (Nat.le_refl _) _
      have HBW := hid hbw0
      clear hr hbk hbw0 hc0 hc1 hds hfs
      go_enter Tryz.func6, Tryz.ntmps6
      go_wp2_with fail
      refine (HC0.out _ HBW.out).mono ?_
      rintro e w1 ⟨rfl, hb1⟩
      have hbw1 := HBW.out.trans (hb1.mono (by simp))
      have hx1 := HX0.out.below hb1
      have g1_1 := hx1.at 0 1 rfl rfl
      have HX1 := hid hx1
      clear hx1 hb1 HC0
      go_wp2_with fail
      refine (HC1.out _ hbw1).mono ?_
      rintro e w2 ⟨rfl, hb2⟩
      have hbw2 := hbw1.trans (hb2.mono hbw1.size)
      have hx2 := HX1.out.below hb2
      have HX2 := hid hx2
      clear hx2 hb2 HC1
      go_wp2_with fail
      go_ret
      exact ⟨ret_int (by rw [purse_no (by have := HBK.out; omega)]), hbw2⟩
    case pos =>
      rw [purse_ok hp1] at hc1
      have HC0 := hid hc0
      have HC1 := hid hc1
      have HBK := hid hbk
      have HX0 := hid ((Boxes.nil w).alloc #[.slice ads ds.length cds, .slice afs fs.length cfs] 25 (0, 0))
      have hbw0 : Below w.heap.size w (w.alloc (.cells #[.slice ads ds.length cds, .slice afs fs.length cfs] 25)) := (Below.refl _ _).alloc (Nat.le_refl _) _
      have HBW := hid hbw0
      clear hr hbk hbw0 hc0 hc1 hds hfs
      go_enter Tryz.func6, Tryz.ntmps6
      go_wp2_with fail
      refine (HC0.out _ HBW.out).mono ?_
      rintro e w1 ⟨rfl, hb1⟩
      have hbw1 := HBW.out.trans (hb1.mono (by simp))
      have hx1 := HX0.out.below hb1
      have g1_1 := hx1.at 0 1 rfl rfl
      have HX1 := hid hx1
      clear hx1 hb1 HC0
      go_wp2_with fail
      refine (HC1.out _ hbw1).mono ?_
      rintro e w2 ⟨rfl, hb2⟩
      have hbw2 := hbw1.trans (hb2.mono hbw1.size)
      have hx2 := HX1.out.below hb2
      have HX2 := hid hx2
      clear hx2 hb2 HC1
      go_wp2_with fail
      go_ret
      exact ⟨ret_int (by rw [purse_ok (by have := HBK.out; omega)]; have := HBK.out; omega), hbw2⟩

end Go.Proofs.YtgpefnlpbjnjbaaGreat

namespace Go.Proofs.YtgpefnlpbjnjbaaGreat
open Go.ChangeShapes Go.WideShapes Go.ChangeAt Go.RowKit
open Go.Sort (grow)
set_option linter.unusedVariables false

/-- Handed back: the call's own copy. -/
def GivesCon (n : ByteArray) (fs : List Ty) (w : World) (e : Ending) (w' : World) : Prop :=
  ∃ (afs : Option Addr) (cfs : Nat), e = .returned (.agg #[.string n, .slice afs fs.length cfs]) ∧ OwnS w' w.heap.size (Con.d (Con.mk n fs)) [.string n, .slice afs fs.length cfs] ∧ Below w.heap.size w w'
def GivesCons (ts : List Con) (w : World) (e : Ending) (w' : World) : Prop :=
  ∃ (a : Option Addr) (c : Nat), e = .returned (.slice a ts.length c) ∧ OwnL w' w.heap.size (Con.ds ts) (.slice a ts.length c) ∧ Below w.heap.size w w'
abbrev ToCon : Prop := ∀ (n : ByteArray) (fs : List Ty) (afs : Option Addr) (cfs : Nat) (w : World), Con.bulk (Con.mk n fs) ≤ 1048576 → RdS w (Con.d (Con.mk n fs)) [.string n, .slice afs fs.length cfs] →
  Calls Tryz.prog 131 #[.agg #[.string n, .slice afs fs.length cfs]] w (GivesCon n fs w)
theorem toCon : ToCon := by
  intro n fs afs cfs w hM hr
  have hbk : Con.bulk (Con.mk n fs) = n.size + Ty.bulks fs := rfl
  obtain ⟨zn, hfs⟩ := hr.fCon
  have hc1 := fun (W : World) (hb : Below w.heap.size w W) => toTys fs afs cfs W (by omega) (hfs.below hb)
  have HC1 := hid hc1
  have hB0 : Below w.heap.size w (w.alloc (.cells #[.string n, .slice afs fs.length cfs] 167)) := (Below.refl _ _).alloc (Nat.le_refl _) _
  clear hr hbk hM hc1 hB0 hfs
  go_enter Tryz.func131, Tryz.ntmps131
  go_wp2_with fail
  refine (HC1.out _ ((((Below.refl _ _).alloc (Nat.le_refl _) _).alloc (by simp) _).alloc (by simp; omega) _)).mono ?_
  rintro e w1 ⟨afs_1, cfs_1, rfl, ho1, hb1⟩
  obtain ⟨hcl1, hfz1⟩ := bcell hb1
  have hz1 : w.heap.size + 1 + 1 < w1.heap.size := by have := hb1.size; simp at this; omega
  have hbw1 : Below w.heap.size w w1 := ((((Below.refl _ _).alloc (Nat.le_refl _) _).alloc (by simp) _).alloc (by simp; omega) _).trans (hb1.mono (by simp; omega))
  have HO1 := hid (ho1.mono (base' := w.heap.size + 3) (by simp))
  have HT1 := hid (Nat.le_refl w1.heap.size)
  clear HC1 ho1
  go_wp2_with fail
  refine bodyPost_ret (v := .agg #[.string n, .slice afs_1 fs.length cfs_1]) (by simp [results, Tryz.results131, go_sem, hcl1]) rfl ⟨afs_1, cfs_1, rfl, ?_, ?_⟩
  · have hfin := ((((Keeps.refl (w.heap.size + 3) w1).setCell (p := ⟨w.heap.size + 1 + 1, 1, none⟩) (by simp) (.slice afs_1 fs.length cfs_1)).setCell (p := ⟨w.heap.size + 1, 0, none⟩) (by simp) (.string n)).setCell (p := ⟨w.heap.size + 1, 1, none⟩) (by simp) (.slice afs_1 fs.length cfs_1))
    have hp := ((PartAll.cons (HO1.out.part.keeps hfin (by first | exact Nat.le_refl _ | omega) (Nat.le_refl _)) (PartAll.nil _ w1.heap.size w1.heap.size) (Nat.le_refl _) (by omega) (by omega)).plain (Rd.str_mk zn))
    exact OwnS.mono (base := w.heap.size + 3) hp.own (by omega)
  · exact (((hbw1.setCell (by simp; try omega) _).setCell (by simp; try omega) _).setCell (by simp; try omega) _)

theorem infoCon : (Tryz.prog.info? 116).map (fun i => (i.zero, i.size, i.bytes)) = some (some (.agg #[.string ⟨#[]⟩, .slice none 0 0]), 2, 40) := by kernel_rfl
theorem makeCon (n : Nat) (hn : n ≤ 1048576) : ∃ C : Array Value, C.size = n * 2 ∧ ∀ w : World, (Instr.makeSlice 93 (.int .i64 (n : Int)) (.int .i64 (n : Int))).run Tryz.prog w = .ok (.slice (some ⟨w.heap.size, 0, none⟩) n n) (w.alloc (.cells C 116)) := by
  obtain ⟨i, hi, hz, hs, hb⟩ := info_parts infoCon
  refine ⟨madeCells (Value.cells (.agg #[.string ⟨#[]⟩, .slice none 0 0])) (n * 2), size_madeCells _ _, fun w => ?_⟩
  have := run_make (P := Tryz.prog) w 93 116 i _ Tryz.underlying93 hi hz .i64 .i64 n n (by omega) (Int.le_refl _) (by rw [hb]; omega) (by omega)
  simp only [Int.toNat_natCast, hs] at this
  exact this
theorem toCons (ts : List Con) (a : Option Addr) (c : Nat) (w : World) (hM : Con.bulks ts ≤ 1048576) (hr : RdL w (Con.ds ts) (.slice a ts.length c)) :
    Calls Tryz.prog 90 #[.slice a ts.length c] w (GivesCons ts w) := by
  obtain ⟨_, _, e, h2, h3, h4⟩ := hr.eCon
  simp only [Value.slice.injEq, true_and] at e
  obtain ⟨rfl, rfl⟩ := e
  have hl := Con.bulks_length ts
  obtain ⟨C, hC, hmk⟩ := makeCon ts.length (by omega)
  have HC := hid hC
  have H4 := hid h4
  clear hr h4 hC
  go_enter Tryz.func90, Tryz.ntmps90
  go_wp2_with fail
  clear hmk
  go_loopw [4] (fun i wr => ∃ (j : Nat), j ≤ ts.length ∧ i = .int .i64 j ∧ ∃ (cur : Array Value) (F : List Nat), wr.heap[w.heap.size]? = some (.cells cur 116 (0, 0)) ∧ Hid (cur.size = ts.length * 2) ∧ Hid (RdAll wr (Con.ds (ts.take j)) (cur.toList.take (j * 2)) F) ∧ Owned wr (w.heap.size + 1) F ∧ Below w.heap.size w wr) (fun i _ => ts.length - (intOf i).toNat)
  case atStart => exact ⟨0, by omega, rfl, C, [], heap_alloc_new _ _, HC.out, by show RdAll _ _ _ _; simpa [Con.ds] using RdAll.nil, Owned.nil _ _, (Below.refl _ _).alloc (Nat.le_refl _) _⟩
  case round =>
    obtain ⟨j, hj, rfl, cur, F, hcur, HS, HR, HO, hb⟩ := hrel
    by_cases hlt : j < ts.length
    · obtain ⟨b, o, rfl, hbl, hall⟩ := H4.out (by omega)
      obtain ⟨t, ht⟩ : ∃ t, ts[j]? = some t := ⟨_, List.getElem?_eq_getElem hlt⟩
      obtain ⟨n1, fs1⟩ := t
      obtain ⟨afs1, cfs1, q0, q1, hrk⟩ := hall j n1 fs1 ht
      clear hall H4
      have d0 := (hb.cell (p := ⟨b, o + j * 2, none⟩) hbl).trans q0
      have d1 := (hb.cell (p := ⟨b, o + j * 2 + 1, none⟩) hbl).trans q1
      have HT := hid ht
      have hbg := Con.bulk_get ts j _ ht
      have hfc := hrk.fCon
      have HFC := hid hfc
      have hc := toCon n1 fs1 afs1 cfs1 wr (by omega) (hrk.below hb)
      have HC := hid hc
      have HU := hid hcur
      clear ht hrk q0 q1 hc hcur hfc
      go_wp2_with fail
      refine HC.out.mono ?_
      clear HC
      rintro e w1 ⟨afs2, cfs2, rfl, hown, hb1⟩
      have hB : w.heap.size < wr.heap.size := (Array.getElem?_eq_some_iff.1 HU.out).1
      have hcur1 : w1.heap[w.heap.size]? = some (.cells cur 116 (0, 0)) := (hb1.block _ hB).trans HU.out
      have hsz : j * 2 + 1 < cur.size := by have := HS.out; omega
      have e0 : w1.cell? ⟨w.heap.size, j * 2, none⟩ = some (cur[j * 2]'(by omega)) := by simp [World.cell?, hcur1]
      have f0 : w1.frozen? ⟨w.heap.size, j * 2, none⟩ = false := by simp [World.frozen?, hcur1]
      have e1 : w1.cell? ⟨w.heap.size, j * 2 + 1, none⟩ = some (cur[j * 2 + 1]'(by omega)) := by simp [World.cell?, hcur1]
      have f1 : w1.frozen? ⟨w.heap.size, j * 2 + 1, none⟩ = false := by simp [World.frozen?, hcur1]
      have HCU := hid hcur1
      have HW := hid hown
      clear hcur1 hown
      go_wp2_with fail
      obtain ⟨F3, hr3, ho3⟩ := HW.out
      have hlo3 : ∀ y ∈ F3, wr.heap.size ≤ y := fun y hy => (ho3.2 y hy).1
      have hlo : ∀ x ∈ F, x < wr.heap.size := HO.lt
      obtain ⟨cur', H, g1, g2, g3, g4, g5⟩ := fill_step (m := 2) (base := w.heap.size + 1) HCU.out rfl (by have := HS.out; omega) (HR.out.below hb1) hr3 (HO.keep fun b hb => hb1.block b (hlo b hb)) (ho3.mono (by omega))
        (fun x hx => by have := (HO.2 x hx).1; omega) (fun x hx => by have := hlo3 x hx; omega) (fun x hx y hy => by have := hlo x hx; have := hlo3 y hy; omega)
      have hbw : Below w.heap.size w (setMany w1 w.heap.size (j * 2) [.string n1, .slice afs2 fs1.length cfs2]) := Below.setMany _ _ (hb.trans (hb1.mono hb.size)) (Nat.le_refl _)
      have htk : Con.ds (ts.take (j + 1)) = Con.ds (ts.take j) ++ [Con.d (Con.mk n1 fs1)] := Con.ds_snoc ts j _ HT.out
      go_roundw
      case rel => exact ⟨j + 1, by omega, by go_num, cur', H, g1, by show _ = _; rw [g2]; exact HS.out, by show RdAll _ _ _ _; rw [htk]; exact g3, g4, hbw⟩
      case measure => simp [intOf]; omega
    · obtain rfl : j = ts.length := by omega
      rw [List.take_length] at HR
      go_wp2_with fail
      go_ret
      obtain ⟨G, q1, q2⟩ := fill_done (m := 2) (base := w.heap.size) hcur HS.out (Con.ds_length ts) (by omega) HR.out (HO.mono (by omega)) (Nat.le_refl _) (fun x hx => by have := (HO.2 x hx).1; omega)
      exact ⟨_, _, rfl, ⟨G, q1, q2⟩, hb⟩

end Go.Proofs.YtgpefnlpbjnjbaaGreat

namespace Go.Proofs.YtgpefnlpbjnjbaaGreat
open Go.ChangeShapes Go.WideShapes Go.ChangeAt Go.RowKit
open Go.Sort (grow)
set_option linter.unusedVariables false

/-- Handed back: the call's own copy. -/
def GivesDat (n : ByteArray) (qs : List Con) (w : World) (e : Ending) (w' : World) : Prop :=
  ∃ (aqs : Option Addr) (cqs : Nat), e = .returned (.agg #[.string n, .slice aqs qs.length cqs]) ∧ OwnS w' w.heap.size (Dat.d (Dat.mk n qs)) [.string n, .slice aqs qs.length cqs] ∧ Below w.heap.size w w'
def GivesDats (ts : List Dat) (w : World) (e : Ending) (w' : World) : Prop :=
  ∃ (a : Option Addr) (c : Nat), e = .returned (.slice a ts.length c) ∧ OwnL w' w.heap.size (Dat.ds ts) (.slice a ts.length c) ∧ Below w.heap.size w w'
abbrev ToDat : Prop := ∀ (n : ByteArray) (qs : List Con) (aqs : Option Addr) (cqs : Nat) (w : World), Dat.bulk (Dat.mk n qs) ≤ 1048576 → RdS w (Dat.d (Dat.mk n qs)) [.string n, .slice aqs qs.length cqs] →
  Calls Tryz.prog 50 #[.agg #[.string n, .slice aqs qs.length cqs]] w (GivesDat n qs w)
theorem toDat : ToDat := by
  intro n qs aqs cqs w hM hr
  have hbk : Dat.bulk (Dat.mk n qs) = n.size + Con.bulks qs := rfl
  obtain ⟨zn, hqs⟩ := hr.fDat
  have hc1 := fun (W : World) (hb : Below w.heap.size w W) => toCons qs aqs cqs W (by omega) (hqs.below hb)
  have HC1 := hid hc1
  have hB0 : Below w.heap.size w (w.alloc (.cells #[.string n, .slice aqs qs.length cqs] 76)) := (Below.refl _ _).alloc (Nat.le_refl _) _
  clear hr hbk hM hc1 hB0 hqs
  go_enter Tryz.func50, Tryz.ntmps50
  go_wp2_with fail
  refine (HC1.out _ ((((Below.refl _ _).alloc (Nat.le_refl _) _).alloc (by simp) _).alloc (by simp; omega) _)).mono ?_
  rintro e w1 ⟨aqs_1, cqs_1, rfl, ho1, hb1⟩
  obtain ⟨hcl1, hfz1⟩ := bcell hb1
  have hz1 : w.heap.size + 1 + 1 < w1.heap.size := by have := hb1.size; simp at this; omega
  have hbw1 : Below w.heap.size w w1 := ((((Below.refl _ _).alloc (Nat.le_refl _) _).alloc (by simp) _).alloc (by simp; omega) _).trans (hb1.mono (by simp; omega))
  have HO1 := hid (ho1.mono (base' := w.heap.size + 3) (by simp))
  have HT1 := hid (Nat.le_refl w1.heap.size)
  clear HC1 ho1
  go_wp2_with fail
  refine bodyPost_ret (v := .agg #[.string n, .slice aqs_1 qs.length cqs_1]) (by simp [results, Tryz.results50, go_sem, hcl1]) rfl ⟨aqs_1, cqs_1, rfl, ?_, ?_⟩
  · have hfin := ((((Keeps.refl (w.heap.size + 3) w1).setCell (p := ⟨w.heap.size + 1 + 1, 1, none⟩) (by simp) (.slice aqs_1 qs.length cqs_1)).setCell (p := ⟨w.heap.size + 1, 0, none⟩) (by simp) (.string n)).setCell (p := ⟨w.heap.size + 1, 1, none⟩) (by simp) (.slice aqs_1 qs.length cqs_1))
    have hp := ((PartAll.cons (HO1.out.part.keeps hfin (by first | exact Nat.le_refl _ | omega) (Nat.le_refl _)) (PartAll.nil _ w1.heap.size w1.heap.size) (Nat.le_refl _) (by omega) (by omega)).plain (Rd.str_mk zn))
    exact OwnS.mono (base := w.heap.size + 3) hp.own (by omega)
  · exact (((hbw1.setCell (by simp; try omega) _).setCell (by simp; try omega) _).setCell (by simp; try omega) _)

theorem infoDat : (Tryz.prog.info? 95).map (fun i => (i.zero, i.size, i.bytes)) = some (some (.agg #[.string ⟨#[]⟩, .slice none 0 0]), 2, 40) := by kernel_rfl
theorem makeDat (n : Nat) (hn : n ≤ 1048576) : ∃ C : Array Value, C.size = n * 2 ∧ ∀ w : World, (Instr.makeSlice 29 (.int .i64 (n : Int)) (.int .i64 (n : Int))).run Tryz.prog w = .ok (.slice (some ⟨w.heap.size, 0, none⟩) n n) (w.alloc (.cells C 95)) := by
  obtain ⟨i, hi, hz, hs, hb⟩ := info_parts infoDat
  refine ⟨madeCells (Value.cells (.agg #[.string ⟨#[]⟩, .slice none 0 0])) (n * 2), size_madeCells _ _, fun w => ?_⟩
  have := run_make (P := Tryz.prog) w 29 95 i _ Tryz.underlying29 hi hz .i64 .i64 n n (by omega) (Int.le_refl _) (by rw [hb]; omega) (by omega)
  simp only [Int.toNat_natCast, hs] at this
  exact this
theorem toDats (ts : List Dat) (a : Option Addr) (c : Nat) (w : World) (hM : Dat.bulks ts ≤ 1048576) (hr : RdL w (Dat.ds ts) (.slice a ts.length c)) :
    Calls Tryz.prog 24 #[.slice a ts.length c] w (GivesDats ts w) := by
  obtain ⟨_, _, e, h2, h3, h4⟩ := hr.eDat
  simp only [Value.slice.injEq, true_and] at e
  obtain ⟨rfl, rfl⟩ := e
  have hl := Dat.bulks_length ts
  obtain ⟨C, hC, hmk⟩ := makeDat ts.length (by omega)
  have HC := hid hC
  have H4 := hid h4
  clear hr h4 hC
  go_enter Tryz.func24, Tryz.ntmps24
  go_wp2_with fail
  clear hmk
  go_loopw [4] (fun i wr => ∃ (j : Nat), j ≤ ts.length ∧ i = .int .i64 j ∧ ∃ (cur : Array Value) (F : List Nat), wr.heap[w.heap.size]? = some (.cells cur 95 (0, 0)) ∧ Hid (cur.size = ts.length * 2) ∧ Hid (RdAll wr (Dat.ds (ts.take j)) (cur.toList.take (j * 2)) F) ∧ Owned wr (w.heap.size + 1) F ∧ Below w.heap.size w wr) (fun i _ => ts.length - (intOf i).toNat)
  case atStart => exact ⟨0, by omega, rfl, C, [], heap_alloc_new _ _, HC.out, by show RdAll _ _ _ _; simpa [Dat.ds] using RdAll.nil, Owned.nil _ _, (Below.refl _ _).alloc (Nat.le_refl _) _⟩
  case round =>
    obtain ⟨j, hj, rfl, cur, F, hcur, HS, HR, HO, hb⟩ := hrel
    by_cases hlt : j < ts.length
    · obtain ⟨b, o, rfl, hbl, hall⟩ := H4.out (by omega)
      obtain ⟨t, ht⟩ : ∃ t, ts[j]? = some t := ⟨_, List.getElem?_eq_getElem hlt⟩
      obtain ⟨n1, qs1⟩ := t
      obtain ⟨aqs1, cqs1, q0, q1, hrk⟩ := hall j n1 qs1 ht
      clear hall H4
      have d0 := (hb.cell (p := ⟨b, o + j * 2, none⟩) hbl).trans q0
      have d1 := (hb.cell (p := ⟨b, o + j * 2 + 1, none⟩) hbl).trans q1
      have HT := hid ht
      have hbg := Dat.bulk_get ts j _ ht
      have hfc := hrk.fDat
      have HFC := hid hfc
      have hc := toDat n1 qs1 aqs1 cqs1 wr (by omega) (hrk.below hb)
      have HC := hid hc
      have HU := hid hcur
      clear ht hrk q0 q1 hc hcur hfc
      go_wp2_with fail
      refine HC.out.mono ?_
      clear HC
      rintro e w1 ⟨aqs2, cqs2, rfl, hown, hb1⟩
      have hB : w.heap.size < wr.heap.size := (Array.getElem?_eq_some_iff.1 HU.out).1
      have hcur1 : w1.heap[w.heap.size]? = some (.cells cur 95 (0, 0)) := (hb1.block _ hB).trans HU.out
      have hsz : j * 2 + 1 < cur.size := by have := HS.out; omega
      have e0 : w1.cell? ⟨w.heap.size, j * 2, none⟩ = some (cur[j * 2]'(by omega)) := by simp [World.cell?, hcur1]
      have f0 : w1.frozen? ⟨w.heap.size, j * 2, none⟩ = false := by simp [World.frozen?, hcur1]
      have e1 : w1.cell? ⟨w.heap.size, j * 2 + 1, none⟩ = some (cur[j * 2 + 1]'(by omega)) := by simp [World.cell?, hcur1]
      have f1 : w1.frozen? ⟨w.heap.size, j * 2 + 1, none⟩ = false := by simp [World.frozen?, hcur1]
      have HCU := hid hcur1
      have HW := hid hown
      clear hcur1 hown
      go_wp2_with fail
      obtain ⟨F3, hr3, ho3⟩ := HW.out
      have hlo3 : ∀ y ∈ F3, wr.heap.size ≤ y := fun y hy => (ho3.2 y hy).1
      have hlo : ∀ x ∈ F, x < wr.heap.size := HO.lt
      obtain ⟨cur', H, g1, g2, g3, g4, g5⟩ := fill_step (m := 2) (base := w.heap.size + 1) HCU.out rfl (by have := HS.out; omega) (HR.out.below hb1) hr3 (HO.keep fun b hb => hb1.block b (hlo b hb)) (ho3.mono (by omega))
        (fun x hx => by have := (HO.2 x hx).1; omega) (fun x hx => by have := hlo3 x hx; omega) (fun x hx y hy => by have := hlo x hx; have := hlo3 y hy; omega)
      have hbw : Below w.heap.size w (setMany w1 w.heap.size (j * 2) [.string n1, .slice aqs2 qs1.length cqs2]) := Below.setMany _ _ (hb.trans (hb1.mono hb.size)) (Nat.le_refl _)
      have htk : Dat.ds (ts.take (j + 1)) = Dat.ds (ts.take j) ++ [Dat.d (Dat.mk n1 qs1)] := Dat.ds_snoc ts j _ HT.out
      go_roundw
      case rel => exact ⟨j + 1, by omega, by go_num, cur', H, g1, by show _ = _; rw [g2]; exact HS.out, by show RdAll _ _ _ _; rw [htk]; exact g3, g4, hbw⟩
      case measure => simp [intOf]; omega
    · obtain rfl : j = ts.length := by omega
      rw [List.take_length] at HR
      go_wp2_with fail
      go_ret
      obtain ⟨G, q1, q2⟩ := fill_done (m := 2) (base := w.heap.size) hcur HS.out (Dat.ds_length ts) (by omega) HR.out (HO.mono (by omega)) (Nat.le_refl _) (fun x hx => by have := (HO.2 x hx).1; omega)
      exact ⟨_, _, rfl, ⟨G, q1, q2⟩, hb⟩

end Go.Proofs.YtgpefnlpbjnjbaaGreat

namespace Go.Proofs.YtgpefnlpbjnjbaaGreat
open Go.ChangeShapes Go.WideShapes Go.ChangeAt Go.RowKit
open Go.Sort (grow)
set_option linter.unusedVariables false

/-- Handed back: the call's own copy. -/
def GivesPg (ds : List Dat) (fs : List Df) (w : World) (e : Ending) (w' : World) : Prop :=
  ∃ (ads : Option Addr) (cds : Nat) (afs : Option Addr) (cfs : Nat), e = .returned (.agg #[.slice ads ds.length cds, .slice afs fs.length cfs]) ∧ OwnS w' w.heap.size (Pg.d (Pg.mk ds fs)) [.slice ads ds.length cds, .slice afs fs.length cfs] ∧ Below w.heap.size w w'
def GivesPgs (ts : List Pg) (w : World) (e : Ending) (w' : World) : Prop :=
  ∃ (a : Option Addr) (c : Nat), e = .returned (.slice a ts.length c) ∧ OwnL w' w.heap.size (Pg.ds ts) (.slice a ts.length c) ∧ Below w.heap.size w w'
abbrev ToPg : Prop := ∀ (ds : List Dat) (fs : List Df) (ads : Option Addr) (cds : Nat) (afs : Option Addr) (cfs : Nat) (w : World), Pg.bulk (Pg.mk ds fs) ≤ 1048576 → RdS w (Pg.d (Pg.mk ds fs)) [.slice ads ds.length cds, .slice afs fs.length cfs] →
  Calls Tryz.prog 8 #[.agg #[.slice ads ds.length cds, .slice afs fs.length cfs]] w (GivesPg ds fs w)
theorem toPg : ToPg := by
  intro ds fs ads cds afs cfs w hM hr
  have hbk : Pg.bulk (Pg.mk ds fs) = Dat.bulks ds + Df.bulks fs := rfl
  obtain ⟨hds, hfs⟩ := hr.fPg
  have hc1 := fun (W : World) (hb : Below w.heap.size w W) => toDats ds ads cds W (by omega) (hds.below hb)
  have hc2 := fun (W : World) (hb : Below w.heap.size w W) => toDfs fs afs cfs W (by omega) (hfs.below hb)
  have HC1 := hid hc1
  have HC2 := hid hc2
  have hB0 : Below w.heap.size w (w.alloc (.cells #[.slice ads ds.length cds, .slice afs fs.length cfs] 25)) := (Below.refl _ _).alloc (Nat.le_refl _) _
  clear hr hbk hM hc1 hc2 hB0 hds hfs
  go_enter Tryz.func8, Tryz.ntmps8
  go_wp2_with fail
  refine (HC1.out _ ((((Below.refl _ _).alloc (Nat.le_refl _) _).alloc (by simp) _).alloc (by simp; omega) _)).mono ?_
  rintro e w1 ⟨ads_1, cds_1, rfl, ho1, hb1⟩
  obtain ⟨hcl1, hfz1⟩ := bcell hb1
  have hz1 : w.heap.size + 1 + 1 < w1.heap.size := by have := hb1.size; simp at this; omega
  have hy1 : w.heap.size + 1 < w1.heap.size := by omega
  have hx1 : w.heap.size < w1.heap.size := by omega
  have hbw1 : Below w.heap.size w w1 := ((((Below.refl _ _).alloc (Nat.le_refl _) _).alloc (by simp) _).alloc (by simp; omega) _).trans (hb1.mono (by simp; omega))
  have HO1 := hid (ho1.mono (base' := w.heap.size + 3) (by simp))
  have HT1 := hid (Nat.le_refl w1.heap.size)
  clear HC1 ho1
  have hbs1 := (hbw1.setCell (p := ⟨w.heap.size + 1 + 1, 0, none⟩) (by simp; omega) (.slice ads_1 ds.length cds_1))
  have HKS1 := hid ((Keeps.refl (w.heap.size + 3) w1).setCell (p := ⟨w.heap.size + 1 + 1, 0, none⟩) (by simp) (.slice ads_1 ds.length cds_1))
  go_wp2_with fail
  refine (HC2.out _ hbs1).mono ?_
  rintro e w2 ⟨afs_2, cfs_2, rfl, ho2, hb2⟩
  obtain ⟨hcl2, hfz2⟩ := bcell hb2
  have hz2 : w.heap.size + 1 + 1 < w2.heap.size := by have := hb2.size; simp at this; omega
  have hbw2 : Below w.heap.size w w2 := hbs1.trans (hb2.mono hbs1.size)
  have hsz2 : w1.heap.size ≤ w2.heap.size := by have := hb2.size; simpa using this
  have HK2 := hid (HKS1.out.below hb2)
  have HO2 := hid (ho2.mono (base' := w1.heap.size) (by simp))
  clear HC2 ho2 HKS1
  go_wp2_with fail
  refine bodyPost_ret (v := .agg #[.slice ads_1 ds.length cds_1, .slice afs_2 fs.length cfs_2]) (by simp [results, Tryz.results8, go_sem, hcl1, hcl2, hy1]) rfl ⟨ads_1, cds_1, afs_2, cfs_2, rfl, ?_, ?_⟩
  · have hfin := (((HK2.out.setCell (p := ⟨w.heap.size + 1 + 1, 1, none⟩) (by simp) (.slice afs_2 fs.length cfs_2)).setCell (p := ⟨w.heap.size + 1, 0, none⟩) (by simp) (.slice ads_1 ds.length cds_1)).setCell (p := ⟨w.heap.size + 1, 1, none⟩) (by simp) (.slice afs_2 fs.length cfs_2))
    have hfin2 := ((((Keeps.refl (w.heap.size + 3) w2).setCell (p := ⟨w.heap.size + 1 + 1, 1, none⟩) (by simp) (.slice afs_2 fs.length cfs_2)).setCell (p := ⟨w.heap.size + 1, 0, none⟩) (by simp) (.slice ads_1 ds.length cds_1)).setCell (p := ⟨w.heap.size + 1, 1, none⟩) (by simp) (.slice afs_2 fs.length cfs_2))
    have hp := (PartAll.cons (HO1.out.part.keeps hfin (by first | exact Nat.le_refl _ | omega) (Nat.le_refl _)) (PartAll.cons (HO2.out.part.keeps hfin2 (by first | exact Nat.le_refl _ | omega) (Nat.le_refl _)) (PartAll.nil _ w2.heap.size w2.heap.size) (Nat.le_refl _) (by omega) (by omega)) (Nat.le_refl _) (by omega) (by omega))
    exact OwnS.mono (base := w.heap.size + 3) hp.own (by omega)
  · exact (((hbw2.setCell (by simp; try omega) _).setCell (by simp; try omega) _).setCell (by simp; try omega) _)

theorem infoPg : (Tryz.prog.info? 32).map (fun i => (i.zero, i.size, i.bytes)) = some (some (.agg #[.slice none 0 0, .slice none 0 0]), 2, 48) := by kernel_rfl
end Go.Proofs.YtgpefnlpbjnjbaaGreat

namespace Go.Proofs.YtgpefnlpbjnjbaaGreat
open Go.ChangeShapes Go.WideShapes Go.ChangeAt Go.RowKit
open Go.Sort (grow)
set_option linter.unusedVariables false

theorem eqIns (ts : List Int) (a a' : Option Addr) (c c' : Nat) (w : World) (hr : RdL w (In.ds ts) (.slice a ts.length c)) (hr' : RdL w (In.ds ts) (.slice a' ts.length c')) :
    Calls Tryz.prog 10 #[.slice a ts.length c, .slice a' ts.length c'] w fun e w' => e = .returned (.bool true) ∧ Below w.heap.size w w' := by
  obtain ⟨_, _, e, h2, h3, h4⟩ := hr.eIn
  simp only [Value.slice.injEq, true_and] at e
  obtain ⟨rfl, rfl⟩ := e
  obtain ⟨_, _, e, h2', h3', h4'⟩ := hr'.eIn
  simp only [Value.slice.injEq, true_and] at e
  obtain ⟨rfl, rfl⟩ := e
  have H4 := hid h4
  have H4' := hid h4'
  clear hr h4 hr' h4'
  go_enter Tryz.func10, Tryz.ntmps10
  go_wp2_with fail
  go_loopw [5] (fun i wr => ∃ (j : Nat), j ≤ ts.length ∧ i = .int .i64 j ∧ Below w.heap.size w wr) (fun i _ => ts.length - (intOf i).toNat)
  case atStart => exact ⟨0, by omega, rfl, Below.refl _ _⟩
  case round =>
    obtain ⟨j, hj, rfl, hb⟩ := hrel
    by_cases hlt : j < ts.length
    · obtain ⟨b, o, rfl, hbl, hall⟩ := H4.out (by omega)
      obtain ⟨b', o', rfl, hbl', hall'⟩ := H4'.out (by omega)
      obtain ⟨t, ht⟩ : ∃ t, ts[j]? = some t := ⟨_, List.getElem?_eq_getElem hlt⟩
      obtain ⟨q0, hfc⟩ := hall j t ht
      obtain ⟨p0, -⟩ := hall' j t ht
      clear hall H4 hall' H4' ht
      have d0 := cell_regrown ((hb.cell (p := ⟨b, o + j, none⟩) hbl).trans q0)
      have d1 := cell_regrown ((hb.cell (p := ⟨b', o' + j, none⟩) hbl').trans p0)
      clear q0 p0
      go_wp2_with fail
      refine wp_region_quiet_below (by kernel_rfl) (by kernel_rfl) ?_
      repeat (quiet_step (fail))
      refine wpQuiet_nil ?_
      intro _ hw'
      obtain ⟨⟨dq, osq⟩, hw''⟩ := hw'
      subst hw''
      have hbq := hb.trans ((below_regrown wr dq osq).mono hb.size)
      clear d0 d1
      go_wp2_with fail
      go_roundw
      case rel => exact ⟨j + 1, by omega, by go_num, hbq⟩
      case measure => simp [intOf]; omega
    · go_wp2_with fail
      go_ret
      exact ⟨rfl, hb⟩

theorem eqSrs (ts : List ByteArray) (a a' : Option Addr) (c c' : Nat) (w : World) (hr : RdL w (Sr.ds ts) (.slice a ts.length c)) (hr' : RdL w (Sr.ds ts) (.slice a' ts.length c')) :
    Calls Tryz.prog 140 #[.slice a ts.length c, .slice a' ts.length c'] w fun e w' => e = .returned (.bool true) ∧ Below w.heap.size w w' := by
  obtain ⟨_, _, e, h2, h3, h4⟩ := hr.eSr
  simp only [Value.slice.injEq, true_and] at e
  obtain ⟨rfl, rfl⟩ := e
  obtain ⟨_, _, e, h2', h3', h4'⟩ := hr'.eSr
  simp only [Value.slice.injEq, true_and] at e
  obtain ⟨rfl, rfl⟩ := e
  have H4 := hid h4
  have H4' := hid h4'
  clear hr h4 hr' h4'
  go_enter Tryz.func140, Tryz.ntmps140
  go_wp2_with fail
  go_loopw [5] (fun i wr => ∃ (j : Nat), j ≤ ts.length ∧ i = .int .i64 j ∧ Below w.heap.size w wr) (fun i _ => ts.length - (intOf i).toNat)
  case atStart => exact ⟨0, by omega, rfl, Below.refl _ _⟩
  case round =>
    obtain ⟨j, hj, rfl, hb⟩ := hrel
    by_cases hlt : j < ts.length
    · obtain ⟨b, o, rfl, hbl, hall⟩ := H4.out (by omega)
      obtain ⟨b', o', rfl, hbl', hall'⟩ := H4'.out (by omega)
      obtain ⟨t, ht⟩ : ∃ t, ts[j]? = some t := ⟨_, List.getElem?_eq_getElem hlt⟩
      obtain ⟨q0, hfc⟩ := hall j t ht
      obtain ⟨p0, -⟩ := hall' j t ht
      clear hall H4 hall' H4' ht
      have d0 := cell_regrown ((hb.cell (p := ⟨b, o + j, none⟩) hbl).trans q0)
      have d1 := cell_regrown ((hb.cell (p := ⟨b', o' + j, none⟩) hbl').trans p0)
      clear q0 p0
      go_wp2_with fail
      refine wp_region_quiet_below (by kernel_rfl) (by kernel_rfl) ?_
      repeat (quiet_step (fail))
      refine wpQuiet_nil ?_
      intro _ hw'
      obtain ⟨⟨dq, osq⟩, hw''⟩ := hw'
      subst hw''
      have hbq := hb.trans ((below_regrown wr dq osq).mono hb.size)
      clear d0 d1
      go_wp2_with fail
      go_roundw
      case rel => exact ⟨j + 1, by omega, by go_num, hbq⟩
      case measure => simp [intOf]; omega
    · go_wp2_with fail
      go_ret
      exact ⟨rfl, hb⟩

end Go.Proofs.YtgpefnlpbjnjbaaGreat

namespace Go.Proofs.YtgpefnlpbjnjbaaGreat
open Go.ChangeShapes Go.WideShapes Go.ChangeAt Go.RowKit
open Go.Sort (grow)
set_option linter.unusedVariables false

def EqTy (N : Nat) : Prop := ∀ (k : Int) (n : ByteArray) (ks : List Ty) (aks : Option Addr) (cks : Nat) (aks' : Option Addr) (cks' : Nat) (w : World), Ty.bulk (Ty.mk k n ks) < N → RdS w (Ty.d (Ty.mk k n ks)) [.int .i64 k, .string n, .slice aks ks.length cks] → RdS w (Ty.d (Ty.mk k n ks)) [.int .i64 k, .string n, .slice aks' ks.length cks'] →
  Calls Tryz.prog 96 #[.agg #[.int .i64 k, .string n, .slice aks ks.length cks], .agg #[.int .i64 k, .string n, .slice aks' ks.length cks']] w fun e w' => e = .returned (.bool true) ∧ Below w.heap.size w w'
def EqTys (N : Nat) : Prop := ∀ (ts : List Ty) (a a' : Option Addr) (c c' : Nat) (w : World), Ty.bulks ts < N → RdL w (Ty.ds ts) (.slice a ts.length c) → RdL w (Ty.ds ts) (.slice a' ts.length c') →
  Calls Tryz.prog 139 #[.slice a ts.length c, .slice a' ts.length c'] w fun e w' => e = .returned (.bool true) ∧ Below w.heap.size w w'
theorem eqTy_step (N : Nat) (ih : EqTys N) : EqTy N := by
  intro k n ks aks cks aks' cks' w hN hr hr'
  have hbk : Ty.bulk (Ty.mk k n ks) = n.size + Ty.bulks ks := rfl
  obtain ⟨⟨lok, hik⟩, zn, hks⟩ := hr.fTy
  obtain ⟨⟨lok', hik'⟩, zn', hks'⟩ := hr'.fTy
  have hc1 := fun (W : World) (hb : Below w.heap.size w W) => ih ks aks aks' cks cks' W (by omega) (hks.below hb) (hks'.below hb)
  have HC1 := hid hc1
  have HX0 := hid (((Boxes.nil w).alloc #[.int .i64 k, .string n, .slice aks ks.length cks] 59 (0, 0)).alloc #[.int .i64 k, .string n, .slice aks' ks.length cks'] 59 (0, 0))
  have HB0 := hid (((Below.refl w.heap.size w).alloc (Nat.le_refl _) (.cells #[.int .i64 k, .string n, .slice aks ks.length cks] 59)).alloc (by simp) (.cells #[.int .i64 k, .string n, .slice aks' ks.length cks'] 59))
  clear hr hr' hbk hc1 ih hN hks hks'
  go_enter Tryz.func96, Tryz.ntmps96
  go_wp2_with fail
  refine (HC1.out _ HB0.out).mono ?_
  rintro e w1 ⟨rfl, hb1⟩
  have hbw1 := HB0.out.trans (hb1.mono (by simp; omega))
  have hx1 := HX0.out.below hb1
  have HX1 := hid hx1
  clear hx1 hb1 HC1
  go_wp2_with fail
  go_ret
  exact ⟨rfl, hbw1⟩

theorem eqTys_step (N : Nat) (ih : EqTy N) : EqTys (N + 1) := by
  intro ts a a' c c' w hN hr hr'
  obtain ⟨_, _, e, h2, h3, h4⟩ := hr.eTy
  simp only [Value.slice.injEq, true_and] at e
  obtain ⟨rfl, rfl⟩ := e
  obtain ⟨_, _, e, h2', h3', h4'⟩ := hr'.eTy
  simp only [Value.slice.injEq, true_and] at e
  obtain ⟨rfl, rfl⟩ := e
  have H4 := hid h4
  have H4' := hid h4'
  have IH := hid ih
  clear hr h4 hr' h4' ih
  go_enter Tryz.func139, Tryz.ntmps139
  go_wp2_with fail
  go_loopw [5] (fun i wr => ∃ (j : Nat), j ≤ ts.length ∧ i = .int .i64 j ∧ Below w.heap.size w wr) (fun i _ => ts.length - (intOf i).toNat)
  case atStart => exact ⟨0, by omega, rfl, Below.refl _ _⟩
  case round =>
    obtain ⟨j, hj, rfl, hb⟩ := hrel
    by_cases hlt : j < ts.length
    · obtain ⟨b, o, rfl, hbl, hall⟩ := H4.out (by omega)
      obtain ⟨b', o', rfl, hbl', hall'⟩ := H4'.out (by omega)
      obtain ⟨t, ht⟩ : ∃ t, ts[j]? = some t := ⟨_, List.getElem?_eq_getElem hlt⟩
      obtain ⟨k1, n1, ks1⟩ := t
      obtain ⟨aks1, cks1, q0, q1, q2, hrk⟩ := hall j k1 n1 ks1 ht
      obtain ⟨aks2, cks2, p0, p1, p2, hrk'⟩ := hall' j k1 n1 ks1 ht
      clear hall H4 hall' H4'
      have d0 := cell_regrown ((hb.cell (p := ⟨b, o + j * 3, none⟩) hbl).trans q0)
      have d3 := cell_regrown ((hb.cell (p := ⟨b', o' + j * 3, none⟩) hbl').trans p0)
      have d1 := cell_regrown ((hb.cell (p := ⟨b, o + j * 3 + 1, none⟩) hbl).trans q1)
      have d4 := cell_regrown ((hb.cell (p := ⟨b', o' + j * 3 + 1, none⟩) hbl').trans p1)
      have d2 := cell_regrown ((hb.cell (p := ⟨b, o + j * 3 + 2, none⟩) hbl).trans q2)
      have d5 := cell_regrown ((hb.cell (p := ⟨b', o' + j * 3 + 2, none⟩) hbl').trans p2)
      have hbg := Ty.bulk_get ts j _ ht
      have hc := fun d os => Calls.regrown_of (IH.out k1 n1 ks1 aks1 cks1 aks2 cks2 (grow (redrawn wr d) os) (by omega) ((hrk.below hb).below (below_regrown wr d os)) ((hrk'.below hb).below (below_regrown wr d os)))
      have HC := hid hc
      clear ht hrk hrk' q0 q1 q2 p0 p1 p2 hc
      go_wp2_with fail
      refine wp_region_quiet_below (by kernel_rfl) (by kernel_rfl) ?_
      repeat (quiet_step (exact HC.out _ _))
      refine wpQuiet_nil ?_
      intro _ hw'
      obtain ⟨⟨dq, osq⟩, hw''⟩ := hw'
      subst hw''
      have hbq := hb.trans ((below_regrown wr dq osq).mono hb.size)
      clear HC d0 d1 d2 d3 d4 d5
      go_wp2_with fail
      go_roundw
      case rel => exact ⟨j + 1, by omega, by go_num, hbq⟩
      case measure => simp [intOf]; omega
    · go_wp2_with fail
      go_ret
      exact ⟨rfl, hb⟩

theorem eqTy_all : ∀ M, EqTy M ∧ EqTys M
  | 0 => ⟨fun _ _ _ _ _ _ _ _ h => absurd h (by omega), fun _ _ _ _ _ _ h => absurd h (by omega)⟩
  | M + 1 => by
    have h := eqTy_all M
    have h2 := eqTys_step M h.1
    exact ⟨eqTy_step (M + 1) h2, h2⟩
theorem eqTy (k : Int) (n : ByteArray) (ks : List Ty) (aks : Option Addr) (cks : Nat) (aks' : Option Addr) (cks' : Nat) (w : World) (hr : RdS w (Ty.d (Ty.mk k n ks)) [.int .i64 k, .string n, .slice aks ks.length cks]) (hr' : RdS w (Ty.d (Ty.mk k n ks)) [.int .i64 k, .string n, .slice aks' ks.length cks']) :
    Calls Tryz.prog 96 #[.agg #[.int .i64 k, .string n, .slice aks ks.length cks], .agg #[.int .i64 k, .string n, .slice aks' ks.length cks']] w fun e w' => e = .returned (.bool true) ∧ Below w.heap.size w w' :=
  (eqTy_all (Ty.bulk (Ty.mk k n ks) + 1)).1 k n ks aks cks aks' cks' w (by omega) hr hr'
theorem eqTys (ts : List Ty) (a a' : Option Addr) (c c' : Nat) (w : World) (hr : RdL w (Ty.ds ts) (.slice a ts.length c)) (hr' : RdL w (Ty.ds ts) (.slice a' ts.length c')) :
    Calls Tryz.prog 139 #[.slice a ts.length c, .slice a' ts.length c'] w fun e w' => e = .returned (.bool true) ∧ Below w.heap.size w w' :=
  (eqTy_all (Ty.bulks ts + 1)).2 ts a a' c c' w (by omega) hr hr'

end Go.Proofs.YtgpefnlpbjnjbaaGreat

namespace Go.Proofs.YtgpefnlpbjnjbaaGreat
open Go.ChangeShapes Go.WideShapes Go.ChangeAt Go.RowKit
open Go.Sort (grow)
set_option linter.unusedVariables false

abbrev EqCon : Prop := ∀ (n : ByteArray) (fs : List Ty) (afs : Option Addr) (cfs : Nat) (afs' : Option Addr) (cfs' : Nat) (w : World), RdS w (Con.d (Con.mk n fs)) [.string n, .slice afs fs.length cfs] → RdS w (Con.d (Con.mk n fs)) [.string n, .slice afs' fs.length cfs'] →
  Calls Tryz.prog 138 #[.agg #[.string n, .slice afs fs.length cfs], .agg #[.string n, .slice afs' fs.length cfs']] w fun e w' => e = .returned (.bool true) ∧ Below w.heap.size w w'
theorem eqCon : EqCon := by
  intro n fs afs cfs afs' cfs' w hr hr'
  have hbk : Con.bulk (Con.mk n fs) = n.size + Ty.bulks fs := rfl
  obtain ⟨zn, hfs⟩ := hr.fCon
  obtain ⟨zn', hfs'⟩ := hr'.fCon
  have hc1 := fun (W : World) (hb : Below w.heap.size w W) => eqTys fs afs afs' cfs cfs' W (hfs.below hb) (hfs'.below hb)
  have HC1 := hid hc1
  have HX0 := hid (((Boxes.nil w).alloc #[.string n, .slice afs fs.length cfs] 116 (0, 0)).alloc #[.string n, .slice afs' fs.length cfs'] 116 (0, 0))
  have HB0 := hid (((Below.refl w.heap.size w).alloc (Nat.le_refl _) (.cells #[.string n, .slice afs fs.length cfs] 116)).alloc (by simp) (.cells #[.string n, .slice afs' fs.length cfs'] 116))
  clear hr hr' hbk hc1 hfs hfs'
  go_enter Tryz.func138, Tryz.ntmps138
  go_wp2_with fail
  refine (HC1.out _ HB0.out).mono ?_
  rintro e w1 ⟨rfl, hb1⟩
  have hbw1 := HB0.out.trans (hb1.mono (by simp; omega))
  have hx1 := HX0.out.below hb1
  have HX1 := hid hx1
  clear hx1 hb1 HC1
  go_wp2_with fail
  go_ret
  exact ⟨rfl, hbw1⟩

theorem eqCons (ts : List Con) (a a' : Option Addr) (c c' : Nat) (w : World) (hr : RdL w (Con.ds ts) (.slice a ts.length c)) (hr' : RdL w (Con.ds ts) (.slice a' ts.length c')) :
    Calls Tryz.prog 95 #[.slice a ts.length c, .slice a' ts.length c'] w fun e w' => e = .returned (.bool true) ∧ Below w.heap.size w w' := by
  obtain ⟨_, _, e, h2, h3, h4⟩ := hr.eCon
  simp only [Value.slice.injEq, true_and] at e
  obtain ⟨rfl, rfl⟩ := e
  obtain ⟨_, _, e, h2', h3', h4'⟩ := hr'.eCon
  simp only [Value.slice.injEq, true_and] at e
  obtain ⟨rfl, rfl⟩ := e
  have H4 := hid h4
  have H4' := hid h4'
  clear hr h4 hr' h4'
  go_enter Tryz.func95, Tryz.ntmps95
  go_wp2_with fail
  go_loopw [5] (fun i wr => ∃ (j : Nat), j ≤ ts.length ∧ i = .int .i64 j ∧ Below w.heap.size w wr) (fun i _ => ts.length - (intOf i).toNat)
  case atStart => exact ⟨0, by omega, rfl, Below.refl _ _⟩
  case round =>
    obtain ⟨j, hj, rfl, hb⟩ := hrel
    by_cases hlt : j < ts.length
    · obtain ⟨b, o, rfl, hbl, hall⟩ := H4.out (by omega)
      obtain ⟨b', o', rfl, hbl', hall'⟩ := H4'.out (by omega)
      obtain ⟨t, ht⟩ : ∃ t, ts[j]? = some t := ⟨_, List.getElem?_eq_getElem hlt⟩
      obtain ⟨n1, fs1⟩ := t
      obtain ⟨afs1, cfs1, q0, q1, hrk⟩ := hall j n1 fs1 ht
      obtain ⟨afs2, cfs2, p0, p1, hrk'⟩ := hall' j n1 fs1 ht
      clear hall H4 hall' H4'
      have d0 := cell_regrown ((hb.cell (p := ⟨b, o + j * 2, none⟩) hbl).trans q0)
      have d2 := cell_regrown ((hb.cell (p := ⟨b', o' + j * 2, none⟩) hbl').trans p0)
      have d1 := cell_regrown ((hb.cell (p := ⟨b, o + j * 2 + 1, none⟩) hbl).trans q1)
      have d3 := cell_regrown ((hb.cell (p := ⟨b', o' + j * 2 + 1, none⟩) hbl').trans p1)
      have hbg := Con.bulk_get ts j _ ht
      have hc := fun d os => Calls.regrown_of (eqCon n1 fs1 afs1 cfs1 afs2 cfs2 (grow (redrawn wr d) os) ((hrk.below hb).below (below_regrown wr d os)) ((hrk'.below hb).below (below_regrown wr d os)))
      have HC := hid hc
      clear ht hrk hrk' q0 q1 p0 p1 hc
      go_wp2_with fail
      refine wp_region_quiet_below (by kernel_rfl) (by kernel_rfl) ?_
      repeat (quiet_step (exact HC.out _ _))
      refine wpQuiet_nil ?_
      intro _ hw'
      obtain ⟨⟨dq, osq⟩, hw''⟩ := hw'
      subst hw''
      have hbq := hb.trans ((below_regrown wr dq osq).mono hb.size)
      clear HC d0 d1 d2 d3
      go_wp2_with fail
      go_roundw
      case rel => exact ⟨j + 1, by omega, by go_num, hbq⟩
      case measure => simp [intOf]; omega
    · go_wp2_with fail
      go_ret
      exact ⟨rfl, hb⟩

end Go.Proofs.YtgpefnlpbjnjbaaGreat

namespace Go.Proofs.YtgpefnlpbjnjbaaGreat
open Go.ChangeShapes Go.WideShapes Go.ChangeAt Go.RowKit
open Go.Sort (grow)
set_option linter.unusedVariables false

abbrev EqDat : Prop := ∀ (n : ByteArray) (qs : List Con) (aqs : Option Addr) (cqs : Nat) (aqs' : Option Addr) (cqs' : Nat) (w : World), RdS w (Dat.d (Dat.mk n qs)) [.string n, .slice aqs qs.length cqs] → RdS w (Dat.d (Dat.mk n qs)) [.string n, .slice aqs' qs.length cqs'] →
  Calls Tryz.prog 54 #[.agg #[.string n, .slice aqs qs.length cqs], .agg #[.string n, .slice aqs' qs.length cqs']] w fun e w' => e = .returned (.bool true) ∧ Below w.heap.size w w'
theorem eqDat : EqDat := by
  intro n qs aqs cqs aqs' cqs' w hr hr'
  have hbk : Dat.bulk (Dat.mk n qs) = n.size + Con.bulks qs := rfl
  obtain ⟨zn, hqs⟩ := hr.fDat
  obtain ⟨zn', hqs'⟩ := hr'.fDat
  have hc1 := fun (W : World) (hb : Below w.heap.size w W) => eqCons qs aqs aqs' cqs cqs' W (hqs.below hb) (hqs'.below hb)
  have HC1 := hid hc1
  have HX0 := hid (((Boxes.nil w).alloc #[.string n, .slice aqs qs.length cqs] 95 (0, 0)).alloc #[.string n, .slice aqs' qs.length cqs'] 95 (0, 0))
  have HB0 := hid (((Below.refl w.heap.size w).alloc (Nat.le_refl _) (.cells #[.string n, .slice aqs qs.length cqs] 95)).alloc (by simp) (.cells #[.string n, .slice aqs' qs.length cqs'] 95))
  clear hr hr' hbk hc1 hqs hqs'
  go_enter Tryz.func54, Tryz.ntmps54
  go_wp2_with fail
  refine (HC1.out _ HB0.out).mono ?_
  rintro e w1 ⟨rfl, hb1⟩
  have hbw1 := HB0.out.trans (hb1.mono (by simp; omega))
  have hx1 := HX0.out.below hb1
  have HX1 := hid hx1
  clear hx1 hb1 HC1
  go_wp2_with fail
  go_ret
  exact ⟨rfl, hbw1⟩

theorem eqDats (ts : List Dat) (a a' : Option Addr) (c c' : Nat) (w : World) (hr : RdL w (Dat.ds ts) (.slice a ts.length c)) (hr' : RdL w (Dat.ds ts) (.slice a' ts.length c')) :
    Calls Tryz.prog 28 #[.slice a ts.length c, .slice a' ts.length c'] w fun e w' => e = .returned (.bool true) ∧ Below w.heap.size w w' := by
  obtain ⟨_, _, e, h2, h3, h4⟩ := hr.eDat
  simp only [Value.slice.injEq, true_and] at e
  obtain ⟨rfl, rfl⟩ := e
  obtain ⟨_, _, e, h2', h3', h4'⟩ := hr'.eDat
  simp only [Value.slice.injEq, true_and] at e
  obtain ⟨rfl, rfl⟩ := e
  have H4 := hid h4
  have H4' := hid h4'
  clear hr h4 hr' h4'
  go_enter Tryz.func28, Tryz.ntmps28
  go_wp2_with fail
  go_loopw [5] (fun i wr => ∃ (j : Nat), j ≤ ts.length ∧ i = .int .i64 j ∧ Below w.heap.size w wr) (fun i _ => ts.length - (intOf i).toNat)
  case atStart => exact ⟨0, by omega, rfl, Below.refl _ _⟩
  case round =>
    obtain ⟨j, hj, rfl, hb⟩ := hrel
    by_cases hlt : j < ts.length
    · obtain ⟨b, o, rfl, hbl, hall⟩ := H4.out (by omega)
      obtain ⟨b', o', rfl, hbl', hall'⟩ := H4'.out (by omega)
      obtain ⟨t, ht⟩ : ∃ t, ts[j]? = some t := ⟨_, List.getElem?_eq_getElem hlt⟩
      obtain ⟨n1, qs1⟩ := t
      obtain ⟨aqs1, cqs1, q0, q1, hrk⟩ := hall j n1 qs1 ht
      obtain ⟨aqs2, cqs2, p0, p1, hrk'⟩ := hall' j n1 qs1 ht
      clear hall H4 hall' H4'
      have d0 := cell_regrown ((hb.cell (p := ⟨b, o + j * 2, none⟩) hbl).trans q0)
      have d2 := cell_regrown ((hb.cell (p := ⟨b', o' + j * 2, none⟩) hbl').trans p0)
      have d1 := cell_regrown ((hb.cell (p := ⟨b, o + j * 2 + 1, none⟩) hbl).trans q1)
      have d3 := cell_regrown ((hb.cell (p := ⟨b', o' + j * 2 + 1, none⟩) hbl').trans p1)
      have hbg := Dat.bulk_get ts j _ ht
      have hc := fun d os => Calls.regrown_of (eqDat n1 qs1 aqs1 cqs1 aqs2 cqs2 (grow (redrawn wr d) os) ((hrk.below hb).below (below_regrown wr d os)) ((hrk'.below hb).below (below_regrown wr d os)))
      have HC := hid hc
      clear ht hrk hrk' q0 q1 p0 p1 hc
      go_wp2_with fail
      refine wp_region_quiet_below (by kernel_rfl) (by kernel_rfl) ?_
      repeat (quiet_step (exact HC.out _ _))
      refine wpQuiet_nil ?_
      intro _ hw'
      obtain ⟨⟨dq, osq⟩, hw''⟩ := hw'
      subst hw''
      have hbq := hb.trans ((below_regrown wr dq osq).mono hb.size)
      clear HC d0 d1 d2 d3
      go_wp2_with fail
      go_roundw
      case rel => exact ⟨j + 1, by omega, by go_num, hbq⟩
      case measure => simp [intOf]; omega
    · go_wp2_with fail
      go_ret
      exact ⟨rfl, hb⟩

end Go.Proofs.YtgpefnlpbjnjbaaGreat

namespace Go.Proofs.YtgpefnlpbjnjbaaGreat
open Go.ChangeShapes Go.WideShapes Go.ChangeAt Go.RowKit
open Go.Sort (grow)
set_option linter.unusedVariables false

def EqTm (N : Nat) : Prop := ∀ (k : Int) (u : Int) (n : ByteArray) (tk : Int) (tn : ByteArray) (tks : List Ty) (ns : List ByteArray) (ks : List Tm) (atks : Option Addr) (ctks : Nat) (ans : Option Addr) (cns : Nat) (aks : Option Addr) (cks : Nat) (atks' : Option Addr) (ctks' : Nat) (ans' : Option Addr) (cns' : Nat) (aks' : Option Addr) (cks' : Nat) (w : World), Tm.bulk (Tm.mk k u n (Ty.mk tk tn tks) ns ks) < N → RdS w (Tm.d (Tm.mk k u n (Ty.mk tk tn tks) ns ks)) [.int .i64 k, .int .i64 u, .string n, .int .i64 tk, .string tn, .slice atks tks.length ctks, .slice ans ns.length cns, .slice aks ks.length cks] → RdS w (Tm.d (Tm.mk k u n (Ty.mk tk tn tks) ns ks)) [.int .i64 k, .int .i64 u, .string n, .int .i64 tk, .string tn, .slice atks' tks.length ctks', .slice ans' ns.length cns', .slice aks' ks.length cks'] →
  Calls Tryz.prog 97 #[.agg #[.int .i64 k, .int .i64 u, .string n, .int .i64 tk, .string tn, .slice atks tks.length ctks, .slice ans ns.length cns, .slice aks ks.length cks], .agg #[.int .i64 k, .int .i64 u, .string n, .int .i64 tk, .string tn, .slice atks' tks.length ctks', .slice ans' ns.length cns', .slice aks' ks.length cks']] w fun e w' => e = .returned (.bool true) ∧ Below w.heap.size w w'
def EqTms (N : Nat) : Prop := ∀ (ts : List Tm) (a a' : Option Addr) (c c' : Nat) (w : World), Tm.bulks ts < N → RdL w (Tm.ds ts) (.slice a ts.length c) → RdL w (Tm.ds ts) (.slice a' ts.length c') →
  Calls Tryz.prog 141 #[.slice a ts.length c, .slice a' ts.length c'] w fun e w' => e = .returned (.bool true) ∧ Below w.heap.size w w'
theorem eqTm_step (N : Nat) (ih : EqTms N) : EqTm N := by
  intro k u n tk tn tks ns ks atks ctks ans cns aks cks atks' ctks' ans' cns' aks' cks' w hN hr hr'
  have hbk : Tm.bulk (Tm.mk k u n (Ty.mk tk tn tks) ns ks) = n.size + Ty.bulk (Ty.mk tk tn tks) + Sr.bulks ns + Tm.bulks ks := rfl
  obtain ⟨⟨lok, hik⟩, ⟨lou, hiu⟩, zn, ⟨⟨lotk, hitk⟩, ztn, htks⟩, hns, hks⟩ := hr.fTm
  obtain ⟨⟨lok', hik'⟩, ⟨lou', hiu'⟩, zn', ⟨⟨lotk', hitk'⟩, ztn', htks'⟩, hns', hks'⟩ := hr'.fTm
  have hc1 := fun (W : World) (hb : Below w.heap.size w W) => eqTy tk tn tks atks ctks atks' ctks' W ((RdS.subTm_t hr).below hb) ((RdS.subTm_t hr').below hb)
  have hc2 := fun (W : World) (hb : Below w.heap.size w W) => eqSrs ns ans ans' cns cns' W (hns.below hb) (hns'.below hb)
  have hc3 := fun (W : World) (hb : Below w.heap.size w W) => ih ks aks aks' cks cks' W (by omega) (hks.below hb) (hks'.below hb)
  have HC1 := hid hc1
  have HC2 := hid hc2
  have HC3 := hid hc3
  have HX0 := hid (((Boxes.nil w).alloc #[.int .i64 k, .int .i64 u, .string n, .int .i64 tk, .string tn, .slice atks tks.length ctks, .slice ans ns.length cns, .slice aks ks.length cks] 63 (0, 0)).alloc #[.int .i64 k, .int .i64 u, .string n, .int .i64 tk, .string tn, .slice atks' tks.length ctks', .slice ans' ns.length cns', .slice aks' ks.length cks'] 63 (0, 0))
  have HB0 := hid (((Below.refl w.heap.size w).alloc (Nat.le_refl _) (.cells #[.int .i64 k, .int .i64 u, .string n, .int .i64 tk, .string tn, .slice atks tks.length ctks, .slice ans ns.length cns, .slice aks ks.length cks] 63)).alloc (by simp) (.cells #[.int .i64 k, .int .i64 u, .string n, .int .i64 tk, .string tn, .slice atks' tks.length ctks', .slice ans' ns.length cns', .slice aks' ks.length cks'] 63))
  clear hr hr' hbk hc1 hc2 hc3 ih hN htks htks' hns hns' hks hks'
  go_enter Tryz.func97, Tryz.ntmps97
  go_wp2_with fail
  refine (HC1.out _ HB0.out).mono ?_
  rintro e w1 ⟨rfl, hb1⟩
  have hbw1 := HB0.out.trans (hb1.mono (by simp; omega))
  have hx1 := HX0.out.below hb1
  have g1_6 := hx1.at 1 6 rfl rfl
  have k1_6 := hx1.at 0 6 rfl rfl
  have g1_7 := hx1.at 1 7 rfl rfl
  have k1_7 := hx1.at 0 7 rfl rfl
  simp only [World.size_alloc] at k1_6 k1_7
  have HX1 := hid hx1
  clear hx1 hb1 HC1
  go_wp2_with fail
  refine (HC2.out _ hbw1).mono ?_
  rintro e w2 ⟨rfl, hb2⟩
  have hbw2 := hbw1.trans (hb2.mono (by exact hbw1.size))
  have hx2 := HX1.out.below hb2
  have g2_7 := hx2.at 1 7 rfl rfl
  have k2_7 := hx2.at 0 7 rfl rfl
  simp only [World.size_alloc] at k2_7
  have HX2 := hid hx2
  clear hx2 hb2 HC2
  go_wp2_with fail
  refine (HC3.out _ hbw2).mono ?_
  rintro e w3 ⟨rfl, hb3⟩
  have hbw3 := hbw2.trans (hb3.mono (by exact hbw2.size))
  have hx3 := HX2.out.below hb3
  have HX3 := hid hx3
  clear hx3 hb3 HC3
  go_wp2_with fail
  go_ret
  exact ⟨rfl, hbw3⟩

theorem eqTms_step (N : Nat) (ih : EqTm N) : EqTms (N + 1) := by
  intro ts a a' c c' w hN hr hr'
  obtain ⟨_, _, e, h2, h3, h4⟩ := hr.eTm
  simp only [Value.slice.injEq, true_and] at e
  obtain ⟨rfl, rfl⟩ := e
  obtain ⟨_, _, e, h2', h3', h4'⟩ := hr'.eTm
  simp only [Value.slice.injEq, true_and] at e
  obtain ⟨rfl, rfl⟩ := e
  have H4 := hid h4
  have H4' := hid h4'
  have IH := hid ih
  clear hr h4 hr' h4' ih
  go_enter Tryz.func141, Tryz.ntmps141
  go_wp2_with fail
  go_loopw [5] (fun i wr => ∃ (j : Nat), j ≤ ts.length ∧ i = .int .i64 j ∧ Below w.heap.size w wr) (fun i _ => ts.length - (intOf i).toNat)
  case atStart => exact ⟨0, by omega, rfl, Below.refl _ _⟩
  case round =>
    obtain ⟨j, hj, rfl, hb⟩ := hrel
    by_cases hlt : j < ts.length
    · obtain ⟨b, o, rfl, hbl, hall⟩ := H4.out (by omega)
      obtain ⟨b', o', rfl, hbl', hall'⟩ := H4'.out (by omega)
      obtain ⟨t, ht⟩ : ∃ t, ts[j]? = some t := ⟨_, List.getElem?_eq_getElem hlt⟩
      obtain ⟨k1, u1, n1, ⟨tk1, tn1, tks1⟩, ns1, ks1⟩ := t
      obtain ⟨atks1, ctks1, ans1, cns1, aks1, cks1, q0, q1, q2, q3, q4, q5, q6, q7, hrk⟩ := hall j k1 u1 n1 tk1 tn1 tks1 ns1 ks1 ht
      obtain ⟨atks2, ctks2, ans2, cns2, aks2, cks2, p0, p1, p2, p3, p4, p5, p6, p7, hrk'⟩ := hall' j k1 u1 n1 tk1 tn1 tks1 ns1 ks1 ht
      clear hall H4 hall' H4'
      have d0 := cell_regrown ((hb.cell (p := ⟨b, o + j * 8, none⟩) hbl).trans q0)
      have d8 := cell_regrown ((hb.cell (p := ⟨b', o' + j * 8, none⟩) hbl').trans p0)
      have d1 := cell_regrown ((hb.cell (p := ⟨b, o + j * 8 + 1, none⟩) hbl).trans q1)
      have d9 := cell_regrown ((hb.cell (p := ⟨b', o' + j * 8 + 1, none⟩) hbl').trans p1)
      have d2 := cell_regrown ((hb.cell (p := ⟨b, o + j * 8 + 2, none⟩) hbl).trans q2)
      have d10 := cell_regrown ((hb.cell (p := ⟨b', o' + j * 8 + 2, none⟩) hbl').trans p2)
      have d3 := cell_regrown ((hb.cell (p := ⟨b, o + j * 8 + 3, none⟩) hbl).trans q3)
      have d11 := cell_regrown ((hb.cell (p := ⟨b', o' + j * 8 + 3, none⟩) hbl').trans p3)
      have d4 := cell_regrown ((hb.cell (p := ⟨b, o + j * 8 + 4, none⟩) hbl).trans q4)
      have d12 := cell_regrown ((hb.cell (p := ⟨b', o' + j * 8 + 4, none⟩) hbl').trans p4)
      have d5 := cell_regrown ((hb.cell (p := ⟨b, o + j * 8 + 5, none⟩) hbl).trans q5)
      have d13 := cell_regrown ((hb.cell (p := ⟨b', o' + j * 8 + 5, none⟩) hbl').trans p5)
      have d6 := cell_regrown ((hb.cell (p := ⟨b, o + j * 8 + 6, none⟩) hbl).trans q6)
      have d14 := cell_regrown ((hb.cell (p := ⟨b', o' + j * 8 + 6, none⟩) hbl').trans p6)
      have d7 := cell_regrown ((hb.cell (p := ⟨b, o + j * 8 + 7, none⟩) hbl).trans q7)
      have d15 := cell_regrown ((hb.cell (p := ⟨b', o' + j * 8 + 7, none⟩) hbl').trans p7)
      have hbg := Tm.bulk_get ts j _ ht
      have hc := fun d os => Calls.regrown_of (IH.out k1 u1 n1 tk1 tn1 tks1 ns1 ks1 atks1 ctks1 ans1 cns1 aks1 cks1 atks2 ctks2 ans2 cns2 aks2 cks2 (grow (redrawn wr d) os) (by omega) ((hrk.below hb).below (below_regrown wr d os)) ((hrk'.below hb).below (below_regrown wr d os)))
      have HC := hid hc
      clear ht hrk hrk' q0 q1 q2 q3 q4 q5 q6 q7 p0 p1 p2 p3 p4 p5 p6 p7 hc
      go_wp2_with fail
      refine wp_region_quiet_below (by kernel_rfl) (by kernel_rfl) ?_
      repeat (quiet_step (exact HC.out _ _))
      refine wpQuiet_nil ?_
      intro _ hw'
      obtain ⟨⟨dq, osq⟩, hw''⟩ := hw'
      subst hw''
      have hbq := hb.trans ((below_regrown wr dq osq).mono hb.size)
      clear HC d0 d1 d2 d3 d4 d5 d6 d7 d8 d9 d10 d11 d12 d13 d14 d15
      go_wp2_with fail
      go_roundw
      case rel => exact ⟨j + 1, by omega, by go_num, hbq⟩
      case measure => simp [intOf]; omega
    · go_wp2_with fail
      go_ret
      exact ⟨rfl, hb⟩

theorem eqTm_all : ∀ M, EqTm M ∧ EqTms M
  | 0 => ⟨fun _ _ _ _ _ _ _ _ _ _ _ _ _ _ _ _ _ _ _ _ _ h => absurd h (by omega), fun _ _ _ _ _ _ h => absurd h (by omega)⟩
  | M + 1 => by
    have h := eqTm_all M
    have h2 := eqTms_step M h.1
    exact ⟨eqTm_step (M + 1) h2, h2⟩
theorem eqTm (k : Int) (u : Int) (n : ByteArray) (tk : Int) (tn : ByteArray) (tks : List Ty) (ns : List ByteArray) (ks : List Tm) (atks : Option Addr) (ctks : Nat) (ans : Option Addr) (cns : Nat) (aks : Option Addr) (cks : Nat) (atks' : Option Addr) (ctks' : Nat) (ans' : Option Addr) (cns' : Nat) (aks' : Option Addr) (cks' : Nat) (w : World) (hr : RdS w (Tm.d (Tm.mk k u n (Ty.mk tk tn tks) ns ks)) [.int .i64 k, .int .i64 u, .string n, .int .i64 tk, .string tn, .slice atks tks.length ctks, .slice ans ns.length cns, .slice aks ks.length cks]) (hr' : RdS w (Tm.d (Tm.mk k u n (Ty.mk tk tn tks) ns ks)) [.int .i64 k, .int .i64 u, .string n, .int .i64 tk, .string tn, .slice atks' tks.length ctks', .slice ans' ns.length cns', .slice aks' ks.length cks']) :
    Calls Tryz.prog 97 #[.agg #[.int .i64 k, .int .i64 u, .string n, .int .i64 tk, .string tn, .slice atks tks.length ctks, .slice ans ns.length cns, .slice aks ks.length cks], .agg #[.int .i64 k, .int .i64 u, .string n, .int .i64 tk, .string tn, .slice atks' tks.length ctks', .slice ans' ns.length cns', .slice aks' ks.length cks']] w fun e w' => e = .returned (.bool true) ∧ Below w.heap.size w w' :=
  (eqTm_all (Tm.bulk (Tm.mk k u n (Ty.mk tk tn tks) ns ks) + 1)).1 k u n tk tn tks ns ks atks ctks ans cns aks cks atks' ctks' ans' cns' aks' cks' w (by omega) hr hr'
theorem eqTms (ts : List Tm) (a a' : Option Addr) (c c' : Nat) (w : World) (hr : RdL w (Tm.ds ts) (.slice a ts.length c)) (hr' : RdL w (Tm.ds ts) (.slice a' ts.length c')) :
    Calls Tryz.prog 141 #[.slice a ts.length c, .slice a' ts.length c'] w fun e w' => e = .returned (.bool true) ∧ Below w.heap.size w w' :=
  (eqTm_all (Tm.bulks ts + 1)).2 ts a a' c c' w (by omega) hr hr'

end Go.Proofs.YtgpefnlpbjnjbaaGreat

namespace Go.Proofs.YtgpefnlpbjnjbaaGreat
open Go.ChangeShapes Go.WideShapes Go.ChangeAt Go.RowKit
open Go.Sort (grow)
set_option linter.unusedVariables false

abbrev EqDf : Prop := ∀ (n : ByteArray) (tk : Int) (tn : ByteArray) (tks : List Ty) (bk : Int) (bu : Int) (bn : ByteArray) (btk : Int) (btn : ByteArray) (btks : List Ty) (bns : List ByteArray) (bks : List Tm) (atks : Option Addr) (ctks : Nat) (abtks : Option Addr) (cbtks : Nat) (abns : Option Addr) (cbns : Nat) (abks : Option Addr) (cbks : Nat) (atks' : Option Addr) (ctks' : Nat) (abtks' : Option Addr) (cbtks' : Nat) (abns' : Option Addr) (cbns' : Nat) (abks' : Option Addr) (cbks' : Nat) (w : World), RdS w (Df.d (Df.mk n (Ty.mk tk tn tks) (Tm.mk bk bu bn (Ty.mk btk btn btks) bns bks))) [.string n, .int .i64 tk, .string tn, .slice atks tks.length ctks, .int .i64 bk, .int .i64 bu, .string bn, .int .i64 btk, .string btn, .slice abtks btks.length cbtks, .slice abns bns.length cbns, .slice abks bks.length cbks] → RdS w (Df.d (Df.mk n (Ty.mk tk tn tks) (Tm.mk bk bu bn (Ty.mk btk btn btks) bns bks))) [.string n, .int .i64 tk, .string tn, .slice atks' tks.length ctks', .int .i64 bk, .int .i64 bu, .string bn, .int .i64 btk, .string btn, .slice abtks' btks.length cbtks', .slice abns' bns.length cbns', .slice abks' bks.length cbks'] →
  Calls Tryz.prog 55 #[.agg #[.string n, .int .i64 tk, .string tn, .slice atks tks.length ctks, .int .i64 bk, .int .i64 bu, .string bn, .int .i64 btk, .string btn, .slice abtks btks.length cbtks, .slice abns bns.length cbns, .slice abks bks.length cbks], .agg #[.string n, .int .i64 tk, .string tn, .slice atks' tks.length ctks', .int .i64 bk, .int .i64 bu, .string bn, .int .i64 btk, .string btn, .slice abtks' btks.length cbtks', .slice abns' bns.length cbns', .slice abks' bks.length cbks']] w fun e w' => e = .returned (.bool true) ∧ Below w.heap.size w w'
theorem eqDf : EqDf := by
  intro n tk tn tks bk bu bn btk btn btks bns bks atks ctks abtks cbtks abns cbns abks cbks atks' ctks' abtks' cbtks' abns' cbns' abks' cbks' w hr hr'
  have hbk : Df.bulk (Df.mk n (Ty.mk tk tn tks) (Tm.mk bk bu bn (Ty.mk btk btn btks) bns bks)) = n.size + Ty.bulk (Ty.mk tk tn tks) + Tm.bulk (Tm.mk bk bu bn (Ty.mk btk btn btks) bns bks) := rfl
  obtain ⟨zn, ⟨⟨lotk, hitk⟩, ztn, htks⟩, ⟨⟨lobk, hibk⟩, ⟨lobu, hibu⟩, zbn, ⟨⟨lobtk, hibtk⟩, zbtn, hbtks⟩, hbns, hbks⟩⟩ := hr.fDf
  obtain ⟨zn', ⟨⟨lotk', hitk'⟩, ztn', htks'⟩, ⟨⟨lobk', hibk'⟩, ⟨lobu', hibu'⟩, zbn', ⟨⟨lobtk', hibtk'⟩, zbtn', hbtks'⟩, hbns', hbks'⟩⟩ := hr'.fDf
  have hc1 := fun (W : World) (hb : Below w.heap.size w W) => eqTy tk tn tks atks ctks atks' ctks' W ((RdS.subDf_t hr).below hb) ((RdS.subDf_t hr').below hb)
  have hc2 := fun (W : World) (hb : Below w.heap.size w W) => eqTm bk bu bn btk btn btks bns bks abtks cbtks abns cbns abks cbks abtks' cbtks' abns' cbns' abks' cbks' W ((RdS.subDf_b hr).below hb) ((RdS.subDf_b hr').below hb)
  have HC1 := hid hc1
  have HC2 := hid hc2
  have HX0 := hid (((Boxes.nil w).alloc #[.string n, .int .i64 tk, .string tn, .slice atks tks.length ctks, .int .i64 bk, .int .i64 bu, .string bn, .int .i64 btk, .string btn, .slice abtks btks.length cbtks, .slice abns bns.length cbns, .slice abks bks.length cbks] 65 (0, 0)).alloc #[.string n, .int .i64 tk, .string tn, .slice atks' tks.length ctks', .int .i64 bk, .int .i64 bu, .string bn, .int .i64 btk, .string btn, .slice abtks' btks.length cbtks', .slice abns' bns.length cbns', .slice abks' bks.length cbks'] 65 (0, 0))
  have HB0 := hid (((Below.refl w.heap.size w).alloc (Nat.le_refl _) (.cells #[.string n, .int .i64 tk, .string tn, .slice atks tks.length ctks, .int .i64 bk, .int .i64 bu, .string bn, .int .i64 btk, .string btn, .slice abtks btks.length cbtks, .slice abns bns.length cbns, .slice abks bks.length cbks] 65)).alloc (by simp) (.cells #[.string n, .int .i64 tk, .string tn, .slice atks' tks.length ctks', .int .i64 bk, .int .i64 bu, .string bn, .int .i64 btk, .string btn, .slice abtks' btks.length cbtks', .slice abns' bns.length cbns', .slice abks' bks.length cbks'] 65))
  clear hr hr' hbk hc1 hc2 htks htks' hbtks hbtks' hbns hbns' hbks hbks'
  go_enter Tryz.func55, Tryz.ntmps55
  go_wp2_with fail
  refine (HC1.out _ HB0.out).mono ?_
  rintro e w1 ⟨rfl, hb1⟩
  have hbw1 := HB0.out.trans (hb1.mono (by simp; omega))
  have hx1 := HX0.out.below hb1
  have g1_4 := hx1.at 1 4 rfl rfl
  have k1_4 := hx1.at 0 4 rfl rfl
  have g1_5 := hx1.at 1 5 rfl rfl
  have k1_5 := hx1.at 0 5 rfl rfl
  have g1_6 := hx1.at 1 6 rfl rfl
  have k1_6 := hx1.at 0 6 rfl rfl
  have g1_7 := hx1.at 1 7 rfl rfl
  have k1_7 := hx1.at 0 7 rfl rfl
  have g1_8 := hx1.at 1 8 rfl rfl
  have k1_8 := hx1.at 0 8 rfl rfl
  have g1_9 := hx1.at 1 9 rfl rfl
  have k1_9 := hx1.at 0 9 rfl rfl
  have g1_10 := hx1.at 1 10 rfl rfl
  have k1_10 := hx1.at 0 10 rfl rfl
  have g1_11 := hx1.at 1 11 rfl rfl
  have k1_11 := hx1.at 0 11 rfl rfl
  simp only [World.size_alloc] at k1_4 k1_5 k1_6 k1_7 k1_8 k1_9 k1_10 k1_11
  have HX1 := hid hx1
  clear hx1 hb1 HC1
  go_wp2_with fail
  refine (HC2.out _ hbw1).mono ?_
  rintro e w2 ⟨rfl, hb2⟩
  have hbw2 := hbw1.trans (hb2.mono (by exact hbw1.size))
  have hx2 := HX1.out.below hb2
  have HX2 := hid hx2
  clear hx2 hb2 HC2
  go_wp2_with fail
  go_ret
  exact ⟨rfl, hbw2⟩

theorem eqDfs (ts : List Df) (a a' : Option Addr) (c c' : Nat) (w : World) (hr : RdL w (Df.ds ts) (.slice a ts.length c)) (hr' : RdL w (Df.ds ts) (.slice a' ts.length c')) :
    Calls Tryz.prog 29 #[.slice a ts.length c, .slice a' ts.length c'] w fun e w' => e = .returned (.bool true) ∧ Below w.heap.size w w' := by
  obtain ⟨_, _, e, h2, h3, h4⟩ := hr.eDf
  simp only [Value.slice.injEq, true_and] at e
  obtain ⟨rfl, rfl⟩ := e
  obtain ⟨_, _, e, h2', h3', h4'⟩ := hr'.eDf
  simp only [Value.slice.injEq, true_and] at e
  obtain ⟨rfl, rfl⟩ := e
  have H4 := hid h4
  have H4' := hid h4'
  clear hr h4 hr' h4'
  go_enter Tryz.func29, Tryz.ntmps29
  go_wp2_with fail
  go_loopw [5] (fun i wr => ∃ (j : Nat), j ≤ ts.length ∧ i = .int .i64 j ∧ Below w.heap.size w wr) (fun i _ => ts.length - (intOf i).toNat)
  case atStart => exact ⟨0, by omega, rfl, Below.refl _ _⟩
  case round =>
    obtain ⟨j, hj, rfl, hb⟩ := hrel
    by_cases hlt : j < ts.length
    · obtain ⟨b, o, rfl, hbl, hall⟩ := H4.out (by omega)
      obtain ⟨b', o', rfl, hbl', hall'⟩ := H4'.out (by omega)
      obtain ⟨t, ht⟩ : ∃ t, ts[j]? = some t := ⟨_, List.getElem?_eq_getElem hlt⟩
      obtain ⟨n1, ⟨tk1, tn1, tks1⟩, ⟨bk1, bu1, bn1, ⟨btk1, btn1, btks1⟩, bns1, bks1⟩⟩ := t
      obtain ⟨atks1, ctks1, abtks1, cbtks1, abns1, cbns1, abks1, cbks1, q0, q1, q2, q3, q4, q5, q6, q7, q8, q9, q10, q11, hrk⟩ := hall j n1 tk1 tn1 tks1 bk1 bu1 bn1 btk1 btn1 btks1 bns1 bks1 ht
      obtain ⟨atks2, ctks2, abtks2, cbtks2, abns2, cbns2, abks2, cbks2, p0, p1, p2, p3, p4, p5, p6, p7, p8, p9, p10, p11, hrk'⟩ := hall' j n1 tk1 tn1 tks1 bk1 bu1 bn1 btk1 btn1 btks1 bns1 bks1 ht
      clear hall H4 hall' H4'
      have d0 := cell_regrown ((hb.cell (p := ⟨b, o + j * 12, none⟩) hbl).trans q0)
      have d12 := cell_regrown ((hb.cell (p := ⟨b', o' + j * 12, none⟩) hbl').trans p0)
      have d1 := cell_regrown ((hb.cell (p := ⟨b, o + j * 12 + 1, none⟩) hbl).trans q1)
      have d13 := cell_regrown ((hb.cell (p := ⟨b', o' + j * 12 + 1, none⟩) hbl').trans p1)
      have d2 := cell_regrown ((hb.cell (p := ⟨b, o + j * 12 + 2, none⟩) hbl).trans q2)
      have d14 := cell_regrown ((hb.cell (p := ⟨b', o' + j * 12 + 2, none⟩) hbl').trans p2)
      have d3 := cell_regrown ((hb.cell (p := ⟨b, o + j * 12 + 3, none⟩) hbl).trans q3)
      have d15 := cell_regrown ((hb.cell (p := ⟨b', o' + j * 12 + 3, none⟩) hbl').trans p3)
      have d4 := cell_regrown ((hb.cell (p := ⟨b, o + j * 12 + 4, none⟩) hbl).trans q4)
      have d16 := cell_regrown ((hb.cell (p := ⟨b', o' + j * 12 + 4, none⟩) hbl').trans p4)
      have d5 := cell_regrown ((hb.cell (p := ⟨b, o + j * 12 + 5, none⟩) hbl).trans q5)
      have d17 := cell_regrown ((hb.cell (p := ⟨b', o' + j * 12 + 5, none⟩) hbl').trans p5)
      have d6 := cell_regrown ((hb.cell (p := ⟨b, o + j * 12 + 6, none⟩) hbl).trans q6)
      have d18 := cell_regrown ((hb.cell (p := ⟨b', o' + j * 12 + 6, none⟩) hbl').trans p6)
      have d7 := cell_regrown ((hb.cell (p := ⟨b, o + j * 12 + 7, none⟩) hbl).trans q7)
      have d19 := cell_regrown ((hb.cell (p := ⟨b', o' + j * 12 + 7, none⟩) hbl').trans p7)
      have d8 := cell_regrown ((hb.cell (p := ⟨b, o + j * 12 + 8, none⟩) hbl).trans q8)
      have d20 := cell_regrown ((hb.cell (p := ⟨b', o' + j * 12 + 8, none⟩) hbl').trans p8)
      have d9 := cell_regrown ((hb.cell (p := ⟨b, o + j * 12 + 9, none⟩) hbl).trans q9)
      have d21 := cell_regrown ((hb.cell (p := ⟨b', o' + j * 12 + 9, none⟩) hbl').trans p9)
      have d10 := cell_regrown ((hb.cell (p := ⟨b, o + j * 12 + 10, none⟩) hbl).trans q10)
      have d22 := cell_regrown ((hb.cell (p := ⟨b', o' + j * 12 + 10, none⟩) hbl').trans p10)
      have d11 := cell_regrown ((hb.cell (p := ⟨b, o + j * 12 + 11, none⟩) hbl).trans q11)
      have d23 := cell_regrown ((hb.cell (p := ⟨b', o' + j * 12 + 11, none⟩) hbl').trans p11)
      have hbg := Df.bulk_get ts j _ ht
      have hc := fun d os => Calls.regrown_of (eqDf n1 tk1 tn1 tks1 bk1 bu1 bn1 btk1 btn1 btks1 bns1 bks1 atks1 ctks1 abtks1 cbtks1 abns1 cbns1 abks1 cbks1 atks2 ctks2 abtks2 cbtks2 abns2 cbns2 abks2 cbks2 (grow (redrawn wr d) os) ((hrk.below hb).below (below_regrown wr d os)) ((hrk'.below hb).below (below_regrown wr d os)))
      have HC := hid hc
      clear ht hrk hrk' q0 q1 q2 q3 q4 q5 q6 q7 q8 q9 q10 q11 p0 p1 p2 p3 p4 p5 p6 p7 p8 p9 p10 p11 hc
      go_wp2_with fail
      refine wp_region_quiet_below (by kernel_rfl) (by kernel_rfl) ?_
      repeat (quiet_step (exact HC.out _ _))
      refine wpQuiet_nil ?_
      intro _ hw'
      obtain ⟨⟨dq, osq⟩, hw''⟩ := hw'
      subst hw''
      have hbq := hb.trans ((below_regrown wr dq osq).mono hb.size)
      clear HC d0 d1 d2 d3 d4 d5 d6 d7 d8 d9 d10 d11 d12 d13 d14 d15 d16 d17 d18 d19 d20 d21 d22 d23
      go_wp2_with fail
      go_roundw
      case rel => exact ⟨j + 1, by omega, by go_num, hbq⟩
      case measure => simp [intOf]; omega
    · go_wp2_with fail
      go_ret
      exact ⟨rfl, hb⟩

end Go.Proofs.YtgpefnlpbjnjbaaGreat

namespace Go.Proofs.YtgpefnlpbjnjbaaGreat
open Go.ChangeShapes Go.WideShapes Go.ChangeAt Go.RowKit
open Go.Sort (grow)
set_option linter.unusedVariables false

abbrev EqPg : Prop := ∀ (ds : List Dat) (fs : List Df) (ads : Option Addr) (cds : Nat) (afs : Option Addr) (cfs : Nat) (ads' : Option Addr) (cds' : Nat) (afs' : Option Addr) (cfs' : Nat) (w : World), RdS w (Pg.d (Pg.mk ds fs)) [.slice ads ds.length cds, .slice afs fs.length cfs] → RdS w (Pg.d (Pg.mk ds fs)) [.slice ads' ds.length cds', .slice afs' fs.length cfs'] →
  Calls Tryz.prog 11 #[.agg #[.slice ads ds.length cds, .slice afs fs.length cfs], .agg #[.slice ads' ds.length cds', .slice afs' fs.length cfs']] w fun e w' => e = .returned (.bool true) ∧ Below w.heap.size w w'
theorem eqPg : EqPg := by
  intro ds fs ads cds afs cfs ads' cds' afs' cfs' w hr hr'
  have hbk : Pg.bulk (Pg.mk ds fs) = Dat.bulks ds + Df.bulks fs := rfl
  obtain ⟨hds, hfs⟩ := hr.fPg
  obtain ⟨hds', hfs'⟩ := hr'.fPg
  have hc1 := fun (W : World) (hb : Below w.heap.size w W) => eqDats ds ads ads' cds cds' W (hds.below hb) (hds'.below hb)
  have hc2 := fun (W : World) (hb : Below w.heap.size w W) => eqDfs fs afs afs' cfs cfs' W (hfs.below hb) (hfs'.below hb)
  have HC1 := hid hc1
  have HC2 := hid hc2
  have HX0 := hid (((Boxes.nil w).alloc #[.slice ads ds.length cds, .slice afs fs.length cfs] 32 (0, 0)).alloc #[.slice ads' ds.length cds', .slice afs' fs.length cfs'] 32 (0, 0))
  have HB0 := hid (((Below.refl w.heap.size w).alloc (Nat.le_refl _) (.cells #[.slice ads ds.length cds, .slice afs fs.length cfs] 32)).alloc (by simp) (.cells #[.slice ads' ds.length cds', .slice afs' fs.length cfs'] 32))
  clear hr hr' hbk hc1 hc2 hds hds' hfs hfs'
  go_enter Tryz.func11, Tryz.ntmps11
  go_wp2_with fail
  refine (HC1.out _ HB0.out).mono ?_
  rintro e w1 ⟨rfl, hb1⟩
  have hbw1 := HB0.out.trans (hb1.mono (by simp; omega))
  have hx1 := HX0.out.below hb1
  have g1_1 := hx1.at 1 1 rfl rfl
  have k1_1 := hx1.at 0 1 rfl rfl
  simp only [World.size_alloc] at k1_1
  have HX1 := hid hx1
  clear hx1 hb1 HC1
  go_wp2_with fail
  refine (HC2.out _ hbw1).mono ?_
  rintro e w2 ⟨rfl, hb2⟩
  have hbw2 := hbw1.trans (hb2.mono (by exact hbw1.size))
  have hx2 := HX1.out.below hb2
  have HX2 := hid hx2
  clear hx2 hb2 HC2
  go_wp2_with fail
  go_ret
  exact ⟨rfl, hbw2⟩

end Go.Proofs.YtgpefnlpbjnjbaaGreat

namespace Go.Proofs.YtgpefnlpbjnjbaaGreat
open Go.ChangeShapes Go.WideShapes Go.ChangeAt Go.RowKit Go.BigFrame
open Go.Sort (grow)
set_option linter.unusedVariables false

def NfW (ds : List Dat) (ads : Option Addr) (cds : Nat) (N : Nat) : Prop := ∀ (k1 : Int) (u1 : Int) (n1 : ByteArray) (tk1 : Int) (tn1 : ByteArray) (tks1 : List Ty) (ns1 : List ByteArray) (ks1 : List Tm) (atks1 : Option Addr) (ctks1 : Nat) (ans1 : Option Addr) (cns1 : Nat) (aks1 : Option Addr) (cks1 : Nat) (b1 o1 : Nat) (w : World), Tm.bulk (Tm.mk k1 u1 n1 (Ty.mk tk1 tn1 tks1) ns1 ks1) < N → Tm.bulk (Tm.mk k1 u1 n1 (Ty.mk tk1 tn1 tks1) ns1 ks1) ≤ 1048576 → w.cell? ⟨b1, o1, none⟩ = some (.int .i64 k1) → w.cell? ⟨b1, o1 + 1, none⟩ = some (.int .i64 u1) → w.cell? ⟨b1, o1 + 2, none⟩ = some (.string n1) → w.cell? ⟨b1, o1 + 3, none⟩ = some (.int .i64 tk1) → w.cell? ⟨b1, o1 + 4, none⟩ = some (.string tn1) → w.cell? ⟨b1, o1 + 5, none⟩ = some (.slice atks1 tks1.length ctks1) → w.cell? ⟨b1, o1 + 6, none⟩ = some (.slice ans1 ns1.length cns1) → w.cell? ⟨b1, o1 + 7, none⟩ = some (.slice aks1 ks1.length cks1) → RdL w (Dat.ds ds) (.slice ads ds.length cds) → RdS w (Tm.d (Tm.mk k1 u1 n1 (Ty.mk tk1 tn1 tks1) ns1 ks1)) [.int .i64 k1, .int .i64 u1, .string n1, .int .i64 tk1, .string tn1, .slice atks1 tks1.length ctks1, .slice ans1 ns1.length cns1, .slice aks1 ks1.length cks1] →
  Calls Tryz.prog 48 #[.slice ads ds.length cds, .pointer (some ⟨b1, o1, none⟩)] w fun e w' => e = .returned (.bool (!Tm.anyN (badName ds) (Tm.mk k1 u1 n1 (Ty.mk tk1 tn1 tks1) ns1 ks1))) ∧ Below w.heap.size w w'
set_option maxRecDepth 100000 in
set_option maxHeartbeats 4000000 in
theorem namesFit_step (ds : List Dat) (ads : Option Addr) (cds : Nat) (hD : Dat.bulks ds ≤ 1048576) (N : Nat) (ih : NfW ds ads cds N) : NfW ds ads cds (N + 1) := by
  intro k1 u1 n1 tk1 tn1 tks1 ns1 ks1 atks1 ctks1 ans1 cns1 aks1 cks1 b1 o1 w hN hM x0 x1 x2 x3 x4 x5 x6 x7 hd hr
  have hkn := fun W (hW : Below w.heap.size w W) => spec_Known ds ads cds tk1 tn1 tks1 atks1 ctks1 W (hd.below hW) (hr.subTm_t.below hW)
  have hcn := fun W (hW : Below w.heap.size w W) => spec_Con ds ads cds n1 W hD (hd.below hW)
  have hbk : Tm.bulks ks1 ≤ Tm.bulk (Tm.mk k1 u1 n1 (Ty.mk tk1 tn1 tks1) ns1 ks1) := by simp only [Tm.bulk]; omega
  have hlk : ks1.length ≤ 1048576 := by have := Tm.bulks_length ks1; omega
  obtain ⟨_, _, e, h2, h3, h4⟩ := hr.fTm.2.2.2.2.2.eTm
  simp only [Value.slice.injEq, true_and] at e
  obtain ⟨rfl, rfl⟩ := e
  have HAN0 := hid (fun p => Tm.anyN_mk p k1 u1 n1 (Ty.mk tk1 tn1 tks1) ns1 ks1)
  have X7 := hid x7
  have XL := hid (World.block_lt_of_cell? _ _ x7)
  have H4 := hid h4
  have HK := hid hbk
  have HM := hid hM
  have HN := hid hN
  have HD := hid hd
  have IH := hid ih
  have HX0 := hid x0
  have HX2 := hid x2
  clear h2 h3 h4 hbk hM hN hd ih
  by_cases hk4 : k1 = 4
  case pos =>
    subst hk4
    have hf := badName_lam ds u1 n1 (Ty.mk tk1 tn1 tks1) ns1 ks1
    cases hq : Ty.known ds (Ty.mk tk1 tn1 tks1)
    case false =>
      rw [hq] at hkn hf
      have HKN := hid hkn
      have HE := hid (show (!Tm.anyN (badName ds) (Tm.mk 4 u1 n1 (Ty.mk tk1 tn1 tks1) ns1 ks1)) = false by rw [HAN0.out, hf]; rfl)
      clear hkn hf hq hcn hr IH H4 HK HM HN HD HX0 HX2 XL X7
      go_enter Tryz.func48, Tryz.ntmps48
      go_wp2_with fail
      refine (HKN.out _ (Below.refl _ _)).mono ?_
      rintro e w1 ⟨rfl, hb⟩
      go_wp2_with fail
      go_ret
      exact ⟨ret_bool HE.out.symm, hb⟩
    case true =>
      rw [hq] at hkn hf
      have HKN := hid hkn
      have HAN := hid (show Tm.anyN (badName ds) (Tm.mk 4 u1 n1 (Ty.mk tk1 tn1 tks1) ns1 ks1) = ks1.any (Tm.anyN (badName ds)) by rw [HAN0.out, hf]; rfl)
      clear hkn hf hq hcn hr
      go_enter Tryz.func48, Tryz.ntmps48
      go_wp2_with fail
      refine (HKN.out _ (Below.refl _ _)).mono ?_
      rintro e w1 ⟨rfl, hb⟩
      have y0 := (hb.cell (p := ⟨b1, o1, none⟩) XL.out).trans HX0.out
      have HBL := hid hb
      clear hb x0 x1 x2 x3 x4 x5 x6 x7
      go_wp2_with fail
      clear y0
      go_loopw [7] (fun i wr => ∃ (j : Nat), j ≤ ks1.length ∧ i = .int .i64 j ∧ Hid (∀ (i : Nat) t, i < j → ks1[i]? = some t → Tm.anyN (badName ds) t = false) ∧ Hid (Below w.heap.size w wr)) (fun i _ => ks1.length - (intOf i).toNat)
      case atStart => exact ⟨0, by omega, rfl, fun i t hi => absurd hi (by omega), HBL⟩
      case round =>
        obtain ⟨j, hj, rfl, HJ, HB⟩ := hrel
        have z7 := (HB.out.cell (p := ⟨b1, o1 + 7, none⟩) XL.out).trans X7.out
        by_cases hlt : j < ks1.length
        case neg =>
          have HE := hid (show (!Tm.anyN (badName ds) (Tm.mk 4 u1 n1 (Ty.mk tk1 tn1 tks1) ns1 ks1)) = true by rw [HAN.out, any_n (fun i t h => HJ.out i t (by have := (List.getElem?_eq_some_iff.1 h).1; omega) h)]; rfl)
          go_wp2_with fail
          go_ret
          exact ⟨ret_bool HE.out.symm, HB.out⟩
        case pos =>
          obtain ⟨b, o, rfl, hbl, hall⟩ := H4.out (by omega)
          obtain ⟨t, ht⟩ : ∃ t, ks1[j]? = some t := ⟨_, List.getElem?_eq_getElem hlt⟩
          obtain ⟨k3, u3, n3, ⟨tk3, tn3, tks3⟩, ns3, ks3⟩ := t
          obtain ⟨atks3, ctks3, ans3, cns3, aks3, cks3, q0, q1, q2, q3, q4, q5, q6, q7, hrk⟩ := hall j k3 u3 n3 tk3 tn3 tks3 ns3 ks3 ht
          have hbg := Tm.bulk_get ks1 j _ ht
          have hc := IH.out k3 u3 n3 tk3 tn3 tks3 ns3 ks3 atks3 ctks3 ans3 cns3 aks3 cks3 b (o + j * 8) wr (by have := HK.out; have := HN.out; omega) (by have := HK.out; have := HM.out; omega)  ((HB.out.cell (p := ⟨b, o + j * 8, none⟩) hbl).trans q0) ((HB.out.cell (p := ⟨b, o + j * 8 + 1, none⟩) hbl).trans q1) ((HB.out.cell (p := ⟨b, o + j * 8 + 2, none⟩) hbl).trans q2) ((HB.out.cell (p := ⟨b, o + j * 8 + 3, none⟩) hbl).trans q3) ((HB.out.cell (p := ⟨b, o + j * 8 + 4, none⟩) hbl).trans q4) ((HB.out.cell (p := ⟨b, o + j * 8 + 5, none⟩) hbl).trans q5) ((HB.out.cell (p := ⟨b, o + j * 8 + 6, none⟩) hbl).trans q6) ((HB.out.cell (p := ⟨b, o + j * 8 + 7, none⟩) hbl).trans q7) (HD.out.below HB.out) (hrk.below HB.out)
          have HT := hid ht
          clear hall H4 q0 q1 q2 q3 q4 q5 q6 q7 hrk ht hbg
          cases hq : Tm.anyN (badName ds) (Tm.mk k3 u3 n3 (Ty.mk tk3 tn3 tks3) ns3 ks3)
          case true =>
            rw [hq] at hc
            have HC := hid hc
            have HE := hid (show (!Tm.anyN (badName ds) (Tm.mk 4 u1 n1 (Ty.mk tk1 tn1 tks1) ns1 ks1)) = false by rw [HAN.out, any_y HT.out hq]; rfl)
            clear hc hq
            go_wp2_with fail
            refine HC.out.mono ?_
            rintro e w3 ⟨rfl, hb⟩
            have HB3 := hid (HB.out.trans (hb.mono HB.out.size))
            clear hb z7
            go_wp2_with fail
            go_ret
            exact ⟨ret_bool HE.out.symm, HB3.out⟩
          case false =>
            rw [hq] at hc
            have HC := hid hc
            have HQ := hid hq
            clear hc hq
            go_wp2_with fail
            refine HC.out.mono ?_
            rintro e w3 ⟨rfl, hb⟩
            have HB3 := hid (HB.out.trans (hb.mono HB.out.size))
            clear hb z7
            go_wp2_with fail
            go_roundw
            case rel =>
              refine ⟨j + 1, by omega, by go_num, hid fun i t hi h => ?_, HB3⟩
              rcases Nat.lt_succ_iff_lt_or_eq.1 hi with hi | rfl
              · exact HJ.out i t hi h
              · obtain rfl := Option.some.inj (h.symm.trans HT.out)
                exact HQ.out
            case measure => simp [intOf]; omega
  case neg =>
  have g4 : (k1 == 4) = false := by simp [hk4]
  by_cases hk8 : k1 = 8
  case pos =>
    have g8 : (k1 == 8) = true := by simp [hk8]
    have g10 : (k1 == 10) = false := by simp [hk8]
    have hf := badName_con ds (k := k1) (by omega) u1 n1 (Ty.mk tk1 tn1 tks1) ns1 ks1
    obtain ⟨r1, hr1⟩ : ∃ r, (conOf n1 ds 0).1 = r := ⟨_, rfl⟩
    obtain ⟨r2, hr2⟩ : ∃ r, (conOf n1 ds 0).2 = r := ⟨_, rfl⟩
    unfold conIdx at hf
    rw [hr1] at hf
    rw [hr1, hr2] at hcn
    have HCN := hid hcn
    by_cases hneg : r1 < 0
    case pos =>
      have gn : decide (r1 < 0) = true := decide_eq_true hneg
      have HE := hid (show (!Tm.anyN (badName ds) (Tm.mk k1 u1 n1 (Ty.mk tk1 tn1 tks1) ns1 ks1)) = false by rw [HAN0.out, hf, gn]; rfl)
      clear hkn hf hneg hcn hr IH H4 HK HM HN HD HX0 HX2 XL X7 hr1 hr2 hk4 hk8
      go_enter Tryz.func48, Tryz.ntmps48
      go_wp2_with fail
      refine (HCN.out _ (Below.refl _ _)).mono ?_
      rintro e w1 ⟨rfl, hb⟩
      go_wp2_with fail
      go_ret
      exact ⟨ret_bool HE.out.symm, hb⟩
    case neg =>
      have gn : decide (r1 < 0) = false := decide_eq_false hneg
      have HAN := hid (show Tm.anyN (badName ds) (Tm.mk k1 u1 n1 (Ty.mk tk1 tn1 tks1) ns1 ks1) = ks1.any (Tm.anyN (badName ds)) by rw [HAN0.out, hf, gn]; rfl)
      clear hkn hf hneg hcn hr hr1 hr2 hk4 hk8
      go_enter Tryz.func48, Tryz.ntmps48
      go_wp2_with fail
      refine (HCN.out _ (Below.refl _ _)).mono ?_
      rintro e w1 ⟨rfl, hb⟩
      have HBL := hid hb
      clear hb x0 x1 x2 x3 x4 x5 x6 x7
      go_wp2_with fail
      go_loopw [7] (fun i wr => ∃ (j : Nat), j ≤ ks1.length ∧ i = .int .i64 j ∧ Hid (∀ (i : Nat) t, i < j → ks1[i]? = some t → Tm.anyN (badName ds) t = false) ∧ Hid (Below w.heap.size w wr)) (fun i _ => ks1.length - (intOf i).toNat)
      case atStart => exact ⟨0, by omega, rfl, fun i t hi => absurd hi (by omega), HBL⟩
      case round =>
        obtain ⟨j, hj, rfl, HJ, HB⟩ := hrel
        have z7 := (HB.out.cell (p := ⟨b1, o1 + 7, none⟩) XL.out).trans X7.out
        by_cases hlt : j < ks1.length
        case neg =>
          have HE := hid (show (!Tm.anyN (badName ds) (Tm.mk k1 u1 n1 (Ty.mk tk1 tn1 tks1) ns1 ks1)) = true by rw [HAN.out, any_n (fun i t h => HJ.out i t (by have := (List.getElem?_eq_some_iff.1 h).1; omega) h)]; rfl)
          go_wp2_with fail
          go_ret
          exact ⟨ret_bool HE.out.symm, HB.out⟩
        case pos =>
          obtain ⟨b, o, rfl, hbl, hall⟩ := H4.out (by omega)
          obtain ⟨t, ht⟩ : ∃ t, ks1[j]? = some t := ⟨_, List.getElem?_eq_getElem hlt⟩
          obtain ⟨k3, u3, n3, ⟨tk3, tn3, tks3⟩, ns3, ks3⟩ := t
          obtain ⟨atks3, ctks3, ans3, cns3, aks3, cks3, q0, q1, q2, q3, q4, q5, q6, q7, hrk⟩ := hall j k3 u3 n3 tk3 tn3 tks3 ns3 ks3 ht
          have hbg := Tm.bulk_get ks1 j _ ht
          have hc := IH.out k3 u3 n3 tk3 tn3 tks3 ns3 ks3 atks3 ctks3 ans3 cns3 aks3 cks3 b (o + j * 8) wr (by have := HK.out; have := HN.out; omega) (by have := HK.out; have := HM.out; omega)  ((HB.out.cell (p := ⟨b, o + j * 8, none⟩) hbl).trans q0) ((HB.out.cell (p := ⟨b, o + j * 8 + 1, none⟩) hbl).trans q1) ((HB.out.cell (p := ⟨b, o + j * 8 + 2, none⟩) hbl).trans q2) ((HB.out.cell (p := ⟨b, o + j * 8 + 3, none⟩) hbl).trans q3) ((HB.out.cell (p := ⟨b, o + j * 8 + 4, none⟩) hbl).trans q4) ((HB.out.cell (p := ⟨b, o + j * 8 + 5, none⟩) hbl).trans q5) ((HB.out.cell (p := ⟨b, o + j * 8 + 6, none⟩) hbl).trans q6) ((HB.out.cell (p := ⟨b, o + j * 8 + 7, none⟩) hbl).trans q7) (HD.out.below HB.out) (hrk.below HB.out)
          have HT := hid ht
          clear hall H4 q0 q1 q2 q3 q4 q5 q6 q7 hrk ht hbg
          cases hq : Tm.anyN (badName ds) (Tm.mk k3 u3 n3 (Ty.mk tk3 tn3 tks3) ns3 ks3)
          case true =>
            rw [hq] at hc
            have HC := hid hc
            have HE := hid (show (!Tm.anyN (badName ds) (Tm.mk k1 u1 n1 (Ty.mk tk1 tn1 tks1) ns1 ks1)) = false by rw [HAN.out, any_y HT.out hq]; rfl)
            clear hc hq
            go_wp2_with fail
            refine HC.out.mono ?_
            rintro e w3 ⟨rfl, hb⟩
            have HB3 := hid (HB.out.trans (hb.mono HB.out.size))
            clear hb z7
            go_wp2_with fail
            go_ret
            exact ⟨ret_bool HE.out.symm, HB3.out⟩
          case false =>
            rw [hq] at hc
            have HC := hid hc
            have HQ := hid hq
            clear hc hq
            go_wp2_with fail
            refine HC.out.mono ?_
            rintro e w3 ⟨rfl, hb⟩
            have HB3 := hid (HB.out.trans (hb.mono HB.out.size))
            clear hb z7
            go_wp2_with fail
            go_roundw
            case rel =>
              refine ⟨j + 1, by omega, by go_num, hid fun i t hi h => ?_, HB3⟩
              rcases Nat.lt_succ_iff_lt_or_eq.1 hi with hi | rfl
              · exact HJ.out i t hi h
              · obtain rfl := Option.some.inj (h.symm.trans HT.out)
                exact HQ.out
            case measure => simp [intOf]; omega
  case neg =>
  by_cases hk10 : k1 = 10
  case pos =>
    have g8 : (k1 == 8) = false := by simp [hk10]
    have g10 : (k1 == 10) = true := by simp [hk10]
    have hf := badName_con ds (k := k1) (by omega) u1 n1 (Ty.mk tk1 tn1 tks1) ns1 ks1
    obtain ⟨r1, hr1⟩ : ∃ r, (conOf n1 ds 0).1 = r := ⟨_, rfl⟩
    obtain ⟨r2, hr2⟩ : ∃ r, (conOf n1 ds 0).2 = r := ⟨_, rfl⟩
    unfold conIdx at hf
    rw [hr1] at hf
    rw [hr1, hr2] at hcn
    have HCN := hid hcn
    by_cases hneg : r1 < 0
    case pos =>
      have gn : decide (r1 < 0) = true := decide_eq_true hneg
      have HE := hid (show (!Tm.anyN (badName ds) (Tm.mk k1 u1 n1 (Ty.mk tk1 tn1 tks1) ns1 ks1)) = false by rw [HAN0.out, hf, gn]; rfl)
      clear hkn hf hneg hcn hr IH H4 HK HM HN HD HX0 HX2 XL X7 hr1 hr2 hk4 hk8 hk10
      go_enter Tryz.func48, Tryz.ntmps48
      go_wp2_with fail
      refine (HCN.out _ (Below.refl _ _)).mono ?_
      rintro e w1 ⟨rfl, hb⟩
      go_wp2_with fail
      go_ret
      exact ⟨ret_bool HE.out.symm, hb⟩
    case neg =>
      have gn : decide (r1 < 0) = false := decide_eq_false hneg
      have HAN := hid (show Tm.anyN (badName ds) (Tm.mk k1 u1 n1 (Ty.mk tk1 tn1 tks1) ns1 ks1) = ks1.any (Tm.anyN (badName ds)) by rw [HAN0.out, hf, gn]; rfl)
      clear hkn hf hneg hcn hr hr1 hr2 hk4 hk8 hk10
      go_enter Tryz.func48, Tryz.ntmps48
      go_wp2_with fail
      refine (HCN.out _ (Below.refl _ _)).mono ?_
      rintro e w1 ⟨rfl, hb⟩
      have HBL := hid hb
      clear hb x0 x1 x2 x3 x4 x5 x6 x7
      go_wp2_with fail
      go_loopw [7] (fun i wr => ∃ (j : Nat), j ≤ ks1.length ∧ i = .int .i64 j ∧ Hid (∀ (i : Nat) t, i < j → ks1[i]? = some t → Tm.anyN (badName ds) t = false) ∧ Hid (Below w.heap.size w wr)) (fun i _ => ks1.length - (intOf i).toNat)
      case atStart => exact ⟨0, by omega, rfl, fun i t hi => absurd hi (by omega), HBL⟩
      case round =>
        obtain ⟨j, hj, rfl, HJ, HB⟩ := hrel
        have z7 := (HB.out.cell (p := ⟨b1, o1 + 7, none⟩) XL.out).trans X7.out
        by_cases hlt : j < ks1.length
        case neg =>
          have HE := hid (show (!Tm.anyN (badName ds) (Tm.mk k1 u1 n1 (Ty.mk tk1 tn1 tks1) ns1 ks1)) = true by rw [HAN.out, any_n (fun i t h => HJ.out i t (by have := (List.getElem?_eq_some_iff.1 h).1; omega) h)]; rfl)
          go_wp2_with fail
          go_ret
          exact ⟨ret_bool HE.out.symm, HB.out⟩
        case pos =>
          obtain ⟨b, o, rfl, hbl, hall⟩ := H4.out (by omega)
          obtain ⟨t, ht⟩ : ∃ t, ks1[j]? = some t := ⟨_, List.getElem?_eq_getElem hlt⟩
          obtain ⟨k3, u3, n3, ⟨tk3, tn3, tks3⟩, ns3, ks3⟩ := t
          obtain ⟨atks3, ctks3, ans3, cns3, aks3, cks3, q0, q1, q2, q3, q4, q5, q6, q7, hrk⟩ := hall j k3 u3 n3 tk3 tn3 tks3 ns3 ks3 ht
          have hbg := Tm.bulk_get ks1 j _ ht
          have hc := IH.out k3 u3 n3 tk3 tn3 tks3 ns3 ks3 atks3 ctks3 ans3 cns3 aks3 cks3 b (o + j * 8) wr (by have := HK.out; have := HN.out; omega) (by have := HK.out; have := HM.out; omega)  ((HB.out.cell (p := ⟨b, o + j * 8, none⟩) hbl).trans q0) ((HB.out.cell (p := ⟨b, o + j * 8 + 1, none⟩) hbl).trans q1) ((HB.out.cell (p := ⟨b, o + j * 8 + 2, none⟩) hbl).trans q2) ((HB.out.cell (p := ⟨b, o + j * 8 + 3, none⟩) hbl).trans q3) ((HB.out.cell (p := ⟨b, o + j * 8 + 4, none⟩) hbl).trans q4) ((HB.out.cell (p := ⟨b, o + j * 8 + 5, none⟩) hbl).trans q5) ((HB.out.cell (p := ⟨b, o + j * 8 + 6, none⟩) hbl).trans q6) ((HB.out.cell (p := ⟨b, o + j * 8 + 7, none⟩) hbl).trans q7) (HD.out.below HB.out) (hrk.below HB.out)
          have HT := hid ht
          clear hall H4 q0 q1 q2 q3 q4 q5 q6 q7 hrk ht hbg
          cases hq : Tm.anyN (badName ds) (Tm.mk k3 u3 n3 (Ty.mk tk3 tn3 tks3) ns3 ks3)
          case true =>
            rw [hq] at hc
            have HC := hid hc
            have HE := hid (show (!Tm.anyN (badName ds) (Tm.mk k1 u1 n1 (Ty.mk tk1 tn1 tks1) ns1 ks1)) = false by rw [HAN.out, any_y HT.out hq]; rfl)
            clear hc hq
            go_wp2_with fail
            refine HC.out.mono ?_
            rintro e w3 ⟨rfl, hb⟩
            have HB3 := hid (HB.out.trans (hb.mono HB.out.size))
            clear hb z7
            go_wp2_with fail
            go_ret
            exact ⟨ret_bool HE.out.symm, HB3.out⟩
          case false =>
            rw [hq] at hc
            have HC := hid hc
            have HQ := hid hq
            clear hc hq
            go_wp2_with fail
            refine HC.out.mono ?_
            rintro e w3 ⟨rfl, hb⟩
            have HB3 := hid (HB.out.trans (hb.mono HB.out.size))
            clear hb z7
            go_wp2_with fail
            go_roundw
            case rel =>
              refine ⟨j + 1, by omega, by go_num, hid fun i t hi h => ?_, HB3⟩
              rcases Nat.lt_succ_iff_lt_or_eq.1 hi with hi | rfl
              · exact HJ.out i t hi h
              · obtain rfl := Option.some.inj (h.symm.trans HT.out)
                exact HQ.out
            case measure => simp [intOf]; omega
  case neg =>
  have g8 : (k1 == 8) = false := by simp [hk8]
  have g10 : (k1 == 10) = false := by simp [hk10]
  have HAN := hid (show Tm.anyN (badName ds) (Tm.mk k1 u1 n1 (Ty.mk tk1 tn1 tks1) ns1 ks1) = ks1.any (Tm.anyN (badName ds)) by rw [HAN0.out, badName_else ds hk4 hk8 hk10]; rfl)
  have HBL := hid (Below.refl w.heap.size w)
  clear hkn hcn hr hk4 hk8 hk10
  go_enter Tryz.func48, Tryz.ntmps48
  go_wp2_with fail
  clear x0 x1 x2 x3 x4 x5 x6 x7
  go_loopw [7] (fun i wr => ∃ (j : Nat), j ≤ ks1.length ∧ i = .int .i64 j ∧ Hid (∀ (i : Nat) t, i < j → ks1[i]? = some t → Tm.anyN (badName ds) t = false) ∧ Hid (Below w.heap.size w wr)) (fun i _ => ks1.length - (intOf i).toNat)
  case atStart => exact ⟨0, by omega, rfl, fun i t hi => absurd hi (by omega), HBL⟩
  case round =>
    obtain ⟨j, hj, rfl, HJ, HB⟩ := hrel
    have z7 := (HB.out.cell (p := ⟨b1, o1 + 7, none⟩) XL.out).trans X7.out
    by_cases hlt : j < ks1.length
    case neg =>
      have HE := hid (show (!Tm.anyN (badName ds) (Tm.mk k1 u1 n1 (Ty.mk tk1 tn1 tks1) ns1 ks1)) = true by rw [HAN.out, any_n (fun i t h => HJ.out i t (by have := (List.getElem?_eq_some_iff.1 h).1; omega) h)]; rfl)
      go_wp2_with fail
      go_ret
      exact ⟨ret_bool HE.out.symm, HB.out⟩
    case pos =>
      obtain ⟨b, o, rfl, hbl, hall⟩ := H4.out (by omega)
      obtain ⟨t, ht⟩ : ∃ t, ks1[j]? = some t := ⟨_, List.getElem?_eq_getElem hlt⟩
      obtain ⟨k3, u3, n3, ⟨tk3, tn3, tks3⟩, ns3, ks3⟩ := t
      obtain ⟨atks3, ctks3, ans3, cns3, aks3, cks3, q0, q1, q2, q3, q4, q5, q6, q7, hrk⟩ := hall j k3 u3 n3 tk3 tn3 tks3 ns3 ks3 ht
      have hbg := Tm.bulk_get ks1 j _ ht
      have hc := IH.out k3 u3 n3 tk3 tn3 tks3 ns3 ks3 atks3 ctks3 ans3 cns3 aks3 cks3 b (o + j * 8) wr (by have := HK.out; have := HN.out; omega) (by have := HK.out; have := HM.out; omega)  ((HB.out.cell (p := ⟨b, o + j * 8, none⟩) hbl).trans q0) ((HB.out.cell (p := ⟨b, o + j * 8 + 1, none⟩) hbl).trans q1) ((HB.out.cell (p := ⟨b, o + j * 8 + 2, none⟩) hbl).trans q2) ((HB.out.cell (p := ⟨b, o + j * 8 + 3, none⟩) hbl).trans q3) ((HB.out.cell (p := ⟨b, o + j * 8 + 4, none⟩) hbl).trans q4) ((HB.out.cell (p := ⟨b, o + j * 8 + 5, none⟩) hbl).trans q5) ((HB.out.cell (p := ⟨b, o + j * 8 + 6, none⟩) hbl).trans q6) ((HB.out.cell (p := ⟨b, o + j * 8 + 7, none⟩) hbl).trans q7) (HD.out.below HB.out) (hrk.below HB.out)
      have HT := hid ht
      clear hall H4 q0 q1 q2 q3 q4 q5 q6 q7 hrk ht hbg
      cases hq : Tm.anyN (badName ds) (Tm.mk k3 u3 n3 (Ty.mk tk3 tn3 tks3) ns3 ks3)
      case true =>
        rw [hq] at hc
        have HC := hid hc
        have HE := hid (show (!Tm.anyN (badName ds) (Tm.mk k1 u1 n1 (Ty.mk tk1 tn1 tks1) ns1 ks1)) = false by rw [HAN.out, any_y HT.out hq]; rfl)
        clear hc hq
        go_wp2_with fail
        refine HC.out.mono ?_
        rintro e w3 ⟨rfl, hb⟩
        have HB3 := hid (HB.out.trans (hb.mono HB.out.size))
        clear hb z7
        go_wp2_with fail
        go_ret
        exact ⟨ret_bool HE.out.symm, HB3.out⟩
      case false =>
        rw [hq] at hc
        have HC := hid hc
        have HQ := hid hq
        clear hc hq
        go_wp2_with fail
        refine HC.out.mono ?_
        rintro e w3 ⟨rfl, hb⟩
        have HB3 := hid (HB.out.trans (hb.mono HB.out.size))
        clear hb z7
        go_wp2_with fail
        go_roundw
        case rel =>
          refine ⟨j + 1, by omega, by go_num, hid fun i t hi h => ?_, HB3⟩
          rcases Nat.lt_succ_iff_lt_or_eq.1 hi with hi | rfl
          · exact HJ.out i t hi h
          · obtain rfl := Option.some.inj (h.symm.trans HT.out)
            exact HQ.out
        case measure => simp [intOf]; omega
theorem namesFit_all (ds : List Dat) (ads : Option Addr) (cds : Nat) (hD : Dat.bulks ds ≤ 1048576) : ∀ N, NfW ds ads cds N
  | 0 => fun _ _ _ _ _ _ _ _ _ _ _ _ _ _ _ _ _ h => absurd h (by omega)
  | N + 1 => namesFit_step ds ads cds hD N (namesFit_all ds ads cds hD N)
end Go.Proofs.YtgpefnlpbjnjbaaGreat

namespace Go.Proofs.YtgpefnlpbjnjbaaGreat
open Go.ChangeShapes Go.WideShapes Go.ChangeAt Go.RowKit Go.BigFrame
open Go.Sort (grow)
set_option linter.unusedVariables false

set_option maxRecDepth 100000 in
set_option maxHeartbeats 4000000 in
theorem spec_CasesFit (ds : List Dat) (ads : Option Addr) (cds : Nat) (hD : Dat.bulks ds ≤ 1048576) (ks1 : List Tm) (aks1 : Option Addr) (cks1 : Nat) (b1 o1 : Nat) (w : World) (hl2 : 2 ≤ ks1.length) (hlk : ks1.length ≤ 1048576) (hcn : 0 ≤ (conOf (name1 ks1) ds 0).1) (x7 : w.cell? ⟨b1, o1 + 7, none⟩ = some (.slice aks1 ks1.length cks1)) (hd : RdL w (Dat.ds ds) (.slice ads ds.length cds)) (hr : RdL w (Tm.ds ks1) (.slice aks1 ks1.length cks1)) :
    Calls Tryz.prog 89 #[.slice ads ds.length cds, .pointer (some ⟨b1, o1, none⟩)] w fun e w' => e = .returned (.bool (casesEq (ks1.drop 1) (consAt ds (conIdx ds (name1 ks1))))) ∧ Below w.heap.size w w' := by
  obtain ⟨j, m, cs, q, nc, fsc, hj, hcf, hq, hca, -⟩ := con_at hcn
  have HE0 := hid (show casesEq (ks1.drop 1) (consAt ds (conIdx ds (name1 ks1))) = casesEq (ks1.drop 1) cs by unfold conIdx; rw [hcf, hca])
  obtain ⟨_, _, e, h2, h3, h4⟩ := hr.eTm
  simp only [Value.slice.injEq, true_and] at e
  obtain ⟨rfl, rfl⟩ := e
  obtain ⟨b, o, rfl, hbl, hall⟩ := h4 (by omega)
  obtain ⟨t, ht⟩ : ∃ t, ks1[1]? = some t := ⟨_, List.getElem?_eq_getElem (by omega)⟩
  obtain ⟨k3, u3, n3, ⟨tk3, tn3, tks3⟩, ns3, ks3⟩ := t
  have hn3 := name1_get ht
  rw [hn3] at hcf
  obtain ⟨atks3, ctks3, ans3, cns3, aks3, cks3, q0, q1, q2, q3, q4, q5, q6, q7, -⟩ := hall 1 k3 u3 n3 tk3 tn3 tks3 ns3 ks3 ht
  simp only [Nat.one_mul] at q2
  obtain ⟨_, _, e, h2d, h3d, h4d⟩ := hd.eDat
  simp only [Value.slice.injEq, true_and] at e
  obtain ⟨rfl, rfl⟩ := e
  have hjl : j < ds.length := (List.getElem?_eq_some_iff.1 hj).1
  obtain ⟨bd, od, rfl, hbd, halld⟩ := h4d (by omega)
  obtain ⟨acs, ccs, p0, p1, hrd⟩ := halld j m cs hj
  obtain ⟨_, _, e, h2c, h3c, h4c⟩ := hrd.fDat.2.eCon
  simp only [Value.slice.injEq, true_and] at e
  obtain ⟨rfl, rfl⟩ := e
  have hcl : cs.length ≤ 1048576 := by have h1 := Dat.bulk_get ds j _ hj; have h2 := Con.bulks_length cs; simp only [Dat.bulk] at h1; omega
  have hc := spec_Con ds (some ⟨bd, od, none⟩) cds n3 w hD hd
  rw [hcf] at hc
  simp only at hc
  have hdl := Dat.bulks_length ds
  have hjb : (j : Int) ≤ 1048576 := by omega
  have hqb : (q : Int) ≤ 1048576 := by have := (List.getElem?_eq_some_iff.1 hq).1; omega
  have HC := hid hc
  have HBL := hid hbl
  have HALL := hid hall
  have H4C := hid h4c
  have XL := hid (World.block_lt_of_cell? _ _ x7)
  have X7 := hid x7
  have P1 := hid p1
  have HBD := hid hbd
  clear hc hj hcf hca hq ht hn3 q0 q1 q3 q4 q5 q6 q7 h2 h3 h4 h2d h3d h4d halld p0 p1 hrd h2c h3c h4c hall hd hr hcn hdl
  go_enter Tryz.func89, Tryz.ntmps89
  go_wp2_with fail
  refine HC.out.mono ?_
  rintro e w1 ⟨rfl, hb⟩
  have p1 := (hb.cell (p := ⟨bd, od + j * 2 + 1, none⟩) HBD.out).trans P1.out
  have y7 := (hb.cell (p := ⟨b1, o1 + 7, none⟩) XL.out).trans X7.out
  have HB := hid hb
  clear hb x7 q2
  by_cases hll : ks1.length = cs.length + 1
  case neg =>
    have hlb : ((ks1.length : Int) != (cs.length : Int) + 1) = true := by simp; omega
    have HE := hid (HE0.out.trans (casesEq_len _ _ (by rw [List.length_drop]; omega)))
    clear hll
    go_wp2_with fail
    go_ret
    exact ⟨ret_bool HE.out.symm, HB.out⟩
  case pos =>
    have hlb : ((ks1.length : Int) != (cs.length : Int) + 1) = false := by simp; omega
    have HLL := hid hll
    clear hll
    go_wp2_with fail
    clear p1 y7
    go_loopw [8] (fun i wr => ∃ (i0 : Nat), i0 ≤ cs.length ∧ i = .int .i64 i0 ∧ Hid (∀ (i : Nat) t c, i < i0 → (ks1.drop 1)[i]? = some t → cs[i]? = some c → caseFits t c = true) ∧ Hid (Below w.heap.size w wr)) (fun i _ => cs.length - (intOf i).toNat)
    case atStart => exact ⟨0, by omega, rfl, fun i t c hi => absurd hi (by omega), HB⟩
    case round =>
      obtain ⟨i0, hi0, rfl, HJ, HBR⟩ := hrel
      by_cases hlt : i0 < cs.length
      case neg =>
        have HE := hid (HE0.out.trans (casesEq_yes _ _ (by rw [List.length_drop]; have := HLL.out; omega) (fun i t c h1 h2 => HJ.out i t c (by have := (List.getElem?_eq_some_iff.1 h2).1; omega) h1 h2)))
        go_wp2_with fail
        go_ret
        exact ⟨ret_bool HE.out.symm, HBR.out⟩
      case pos =>
        obtain ⟨t, ht⟩ : ∃ t, ks1[i0 + 1]? = some t := ⟨_, List.getElem?_eq_getElem (by have := HLL.out; omega)⟩
        obtain ⟨k4, u4, n4, ⟨tk4, tn4, tks4⟩, ns4, ks4⟩ := t
        obtain ⟨c4, hc4⟩ : ∃ c, cs[i0]? = some c := ⟨_, List.getElem?_eq_getElem hlt⟩
        obtain ⟨m4, fs4⟩ := c4
        obtain ⟨atks4, ctks4, ans4, cns4, aks4, cks4, q0, q1, q2, q3, q4, q5, q6, q7, -⟩ := HALL.out (i0 + 1) k4 u4 n4 tk4 tn4 tks4 ns4 ks4 ht
        obtain ⟨bc, oc, rfl, hbc, hallc⟩ := H4C.out (by omega)
        obtain ⟨afs4, cfs4, s0, s1, hrc⟩ := hallc i0 m4 fs4 hc4
        have HTD := hid (show (ks1.drop 1)[i0]? = some (Tm.mk k4 u4 n4 (Ty.mk tk4 tn4 tks4) ns4 ks4) by rw [List.getElem?_drop, Nat.add_comm]; exact ht)
        have HC4 := hid hc4
        have hcf4 : caseFits (Tm.mk k4 u4 n4 (Ty.mk tk4 tn4 tks4) ns4 ks4) (.mk m4 fs4) = (decide (n4 = m4) && decide (ns4.length = fs4.length)) := rfl
        have HCF := hid hcf4
        have hi1 : (i0 : Int) + 1 ≤ 1048577 := by omega
        have e7 := cell_regrown ((HBR.out.cell (p := ⟨b1, o1 + 7, none⟩) XL.out).trans X7.out)
        have e2 := cell_regrown ((HBR.out.cell (p := ⟨b, o + (i0 + 1) * 8 + 2, none⟩) HBL.out).trans q2)
        have e6 := cell_regrown ((HBR.out.cell (p := ⟨b, o + (i0 + 1) * 8 + 6, none⟩) HBL.out).trans q6)
        have f0 := cell_regrown ((HBR.out.cell (p := ⟨bc, oc + i0 * 2, none⟩) hbc).trans s0)
        have f1 := cell_regrown ((HBR.out.cell (p := ⟨bc, oc + i0 * 2 + 1, none⟩) hbc).trans s1)
        have hix : i0 + 1 < ks1.length := by have := HLL.out; omega
        clear q0 q1 q2 q3 q4 q5 q6 q7 s0 s1 hrc hallc hc4 ht hcf4
        by_cases hnn : n4 = m4
        case neg =>
          have hbn := bytes_ne hnn
          have HF := hid (HCF.out.trans (by rw [decide_eq_false hnn, Bool.false_and]))
          have HE := hid (HE0.out.trans (casesEq_no _ _ _ _ _ HTD.out HC4.out HF.out))
          clear hnn
          go_wp2_with fail
          refine wp_region_quiet_below (by kernel_rfl) (by kernel_rfl) ?_
          repeat (go_big_quiet_step (fail))
          refine wpQuiet_nil ?_
          intro w3 hw'
          obtain ⟨⟨dq, osq⟩, hw''⟩ := hw'
          have hb3 : Below wr.heap.size wr w3 := by subst hw''; exact below_regrown wr dq osq
          clear hw''
          clear e7 e2 e6 f0 f1
          go_wp2_with fail
          go_ret
          exact ⟨ret_bool HE.out.symm, HBR.out.trans (hb3.mono HBR.out.size)⟩
        case pos =>
        have hbn := bytes_eq hnn
        have HNN := hid hnn
        clear hnn
        by_cases hfl : ns4.length = fs4.length
        case neg =>
          have hbf : ((ns4.length : Int) != (fs4.length : Int)) = true := by simp; omega
          have HF := hid (HCF.out.trans (by rw [decide_eq_false hfl, Bool.and_false]))
          have HE := hid (HE0.out.trans (casesEq_no _ _ _ _ _ HTD.out HC4.out HF.out))
          clear hfl
          go_wp2_with fail
          refine wp_region_quiet_below (by kernel_rfl) (by kernel_rfl) ?_
          repeat (go_big_quiet_step (fail))
          refine wpQuiet_nil ?_
          intro w3 hw'
          obtain ⟨⟨dq, osq⟩, hw''⟩ := hw'
          have hb3 : Below wr.heap.size wr w3 := by subst hw''; exact below_regrown wr dq osq
          clear hw''
          clear e7 e2 e6 f0 f1
          go_wp2_with fail
          go_ret
          exact ⟨ret_bool HE.out.symm, HBR.out.trans (hb3.mono HBR.out.size)⟩
        case pos =>
          have hbf : ((ns4.length : Int) != (fs4.length : Int)) = false := by simp [hfl]
          have HF := hid (HCF.out.trans (by rw [decide_eq_true HNN.out, decide_eq_true hfl, Bool.true_and]))
          clear hfl
          go_wp2_with fail
          refine wp_region_quiet_below (by kernel_rfl) (by kernel_rfl) ?_
          repeat (go_big_quiet_step (fail))
          refine wpQuiet_nil ?_
          intro w3 hw'
          obtain ⟨⟨dq, osq⟩, hw''⟩ := hw'
          have hb3 : Below wr.heap.size wr w3 := by subst hw''; exact below_regrown wr dq osq
          clear hw''
          clear e7 e2 e6 f0 f1
          go_wp2_with fail
          go_roundw
          case rel =>
            refine ⟨i0 + 1, by omega, by go_num, hid fun i t c hi h1 h2 => ?_, hid (HBR.out.trans (hb3.mono HBR.out.size))⟩
            rcases Nat.lt_succ_iff_lt_or_eq.1 hi with hi | rfl
            · exact HJ.out i t c hi h1 h2
            · obtain rfl := Option.some.inj (h1.symm.trans HTD.out)
              obtain rfl := Option.some.inj (h2.symm.trans HC4.out)
              exact HF.out
          case measure => simp [intOf]; omega
def UfW (ds : List Dat) (ads : Option Addr) (cds : Nat) (N : Nat) : Prop := ∀ (k1 : Int) (u1 : Int) (n1 : ByteArray) (tk1 : Int) (tn1 : ByteArray) (tks1 : List Ty) (ns1 : List ByteArray) (ks1 : List Tm) (atks1 : Option Addr) (ctks1 : Nat) (ans1 : Option Addr) (cns1 : Nat) (aks1 : Option Addr) (cks1 : Nat) (b1 o1 : Nat) (w : World), Tm.bulk (Tm.mk k1 u1 n1 (Ty.mk tk1 tn1 tks1) ns1 ks1) < N → Tm.bulk (Tm.mk k1 u1 n1 (Ty.mk tk1 tn1 tks1) ns1 ks1) ≤ 1048576 → named1 ds (Tm.mk k1 u1 n1 (Ty.mk tk1 tn1 tks1) ns1 ks1) → w.cell? ⟨b1, o1, none⟩ = some (.int .i64 k1) → w.cell? ⟨b1, o1 + 1, none⟩ = some (.int .i64 u1) → w.cell? ⟨b1, o1 + 2, none⟩ = some (.string n1) → w.cell? ⟨b1, o1 + 3, none⟩ = some (.int .i64 tk1) → w.cell? ⟨b1, o1 + 4, none⟩ = some (.string tn1) → w.cell? ⟨b1, o1 + 5, none⟩ = some (.slice atks1 tks1.length ctks1) → w.cell? ⟨b1, o1 + 6, none⟩ = some (.slice ans1 ns1.length cns1) → w.cell? ⟨b1, o1 + 7, none⟩ = some (.slice aks1 ks1.length cks1) → RdL w (Dat.ds ds) (.slice ads ds.length cds) → RdS w (Tm.d (Tm.mk k1 u1 n1 (Ty.mk tk1 tn1 tks1) ns1 ks1)) [.int .i64 k1, .int .i64 u1, .string n1, .int .i64 tk1, .string tn1, .slice atks1 tks1.length ctks1, .slice ans1 ns1.length cns1, .slice aks1 ks1.length cks1] →
  Calls Tryz.prog 49 #[.slice ads ds.length cds, .pointer (some ⟨b1, o1, none⟩)] w fun e w' => e = .returned (.bool (!Tm.anyN (wrongB ds) (Tm.mk k1 u1 n1 (Ty.mk tk1 tn1 tks1) ns1 ks1))) ∧ Below w.heap.size w w'
set_option maxRecDepth 100000 in
set_option maxHeartbeats 4000000 in
theorem countsFit_step (ds : List Dat) (ads : Option Addr) (cds : Nat) (hD : Dat.bulks ds ≤ 1048576) (N : Nat) (ih : UfW ds ads cds N) : UfW ds ads cds (N + 1) := by
  intro k1 u1 n1 tk1 tn1 tks1 ns1 ks1 atks1 ctks1 ans1 cns1 aks1 cks1 b1 o1 w hN hM hnm x0 x1 x2 x3 x4 x5 x6 x7 hd hr
  have hcn := fun W (hW : Below w.heap.size w W) => spec_Con ds ads cds n1 W hD (hd.below hW)
  have hbk : Tm.bulks ks1 ≤ Tm.bulk (Tm.mk k1 u1 n1 (Ty.mk tk1 tn1 tks1) ns1 ks1) := by simp only [Tm.bulk]; omega
  have hlk : ks1.length ≤ 1048576 := by have := Tm.bulks_length ks1; omega
  have hrk := hr.fTm.2.2.2.2.2
  obtain ⟨_, _, e, h2, h3, h4⟩ := hrk.eTm
  simp only [Value.slice.injEq, true_and] at e
  obtain ⟨rfl, rfl⟩ := e
  have HAN0 := hid (fun p => Tm.anyN_mk p k1 u1 n1 (Ty.mk tk1 tn1 tks1) ns1 ks1)
  have X7 := hid x7
  have XL := hid (World.block_lt_of_cell? _ _ x7)
  have H4 := hid h4
  have HK := hid hbk
  have HM := hid hM
  have HN := hid hN
  have HD := hid hd
  have IH := hid ih
  have HNM := hid hnm
  have HRK := hid hrk
  clear h2 h3 h4 hbk hM hN hd ih hnm hrk
  by_cases hk8 : k1 = 8
  case pos =>
    subst hk8
    obtain ⟨j, m, cs, q, nc, fsc, hj, hcf, hq, -, hfn⟩ := con_at (named1_con HNM.out (.inl rfl))
    have hf := wrongB_con ds u1 n1 (Ty.mk tk1 tn1 tks1) ns1 ks1
    rw [hfn] at hf
    rw [hcf] at hcn
    obtain ⟨_, _, e, h2d, h3d, h4d⟩ := HD.out.eDat
    simp only [Value.slice.injEq, true_and] at e
    obtain ⟨rfl, rfl⟩ := e
    have hjl : j < ds.length := (List.getElem?_eq_some_iff.1 hj).1
    obtain ⟨bd, od, rfl, hbd, halld⟩ := h4d (by omega)
    obtain ⟨acs, ccs, p0, p1, hrd⟩ := halld j m cs hj
    obtain ⟨_, _, e, h2c, h3c, h4c⟩ := hrd.fDat.2.eCon
    simp only [Value.slice.injEq, true_and] at e
    obtain ⟨rfl, rfl⟩ := e
    have hql : q < cs.length := (List.getElem?_eq_some_iff.1 hq).1
    obtain ⟨bc, oc, rfl, hbc, hallc⟩ := h4c (by omega)
    obtain ⟨afc, cfc, s0, s1, hrc⟩ := hallc q nc fsc hq
    have hcl : cs.length ≤ 1048576 := by have h1 := Dat.bulk_get ds j _ hj; have h2 := Con.bulks_length cs; simp only [Dat.bulk] at h1; omega
    have hdl := Dat.bulks_length ds
    have hjb : (j : Int) ≤ 1048576 := by omega
    have hqb : (q : Int) ≤ 1048576 := by omega
    have hfb : fsc.length ≤ 9223372036854775807 := by obtain ⟨a9, c9, e9, h9, h9', -⟩ := hrc.fCon.2.eTy; omega
    have HCN := hid hcn
    have P1 := hid p1
    have S1 := hid s1
    have HBD := hid hbd
    have HBC := hid hbc
    clear hcn hj hcf hq hfn h2d h3d h4d halld p0 p1 hrd h2c h3c h4c hallc s0 s1 hrc hr hdl
    by_cases hl : ks1.length = fsc.length
    case neg =>
      have hlb : ((fsc.length : Int) != (ks1.length : Int)) = true := by simp; omega
      have HE := hid (show (!Tm.anyN (wrongB ds) (Tm.mk 8 u1 n1 (Ty.mk tk1 tn1 tks1) ns1 ks1)) = false by rw [HAN0.out, hf, decide_eq_false hl]; rfl)
      clear hf hl IH H4 HK HM HN HRK HNM
      go_enter Tryz.func49, Tryz.ntmps49
      go_wp2_with fail
      refine (HCN.out _ (Below.refl _ _)).mono ?_
      rintro e w1 ⟨rfl, hb⟩
      have e7 := cell_regrown ((hb.cell (p := ⟨b1, o1 + 7, none⟩) XL.out).trans X7.out)
      have p1 := cell_regrown ((hb.cell (p := ⟨bd, od + j * 2 + 1, none⟩) HBD.out).trans P1.out)
      have s1 := cell_regrown ((hb.cell (p := ⟨bc, oc + q * 2 + 1, none⟩) HBC.out).trans S1.out)
      have HB1 := hid hb
      clear hb x0 x1 x2 x3 x4 x5 x6 x7
      go_wp2_with fail
      refine wp_region_quiet_below (by kernel_rfl) (by kernel_rfl) ?_
      repeat (go_big_quiet_step (fail))
      refine wpQuiet_nil ?_
      intro w3 hw'
      obtain ⟨⟨dq, osq⟩, hw''⟩ := hw'
      have hb3 : Below w1.heap.size w1 w3 := by subst hw''; exact below_regrown w1 dq osq
      clear hw''
      have HB3 := hid (HB1.out.trans (hb3.mono HB1.out.size))
      clear e7 p1 s1 hb3
      go_wp2_with fail
      go_ret
      exact ⟨ret_bool HE.out.symm, HB3.out⟩
    case pos =>
      have hlb : ((fsc.length : Int) != (ks1.length : Int)) = false := by simp [hl]
      have HAN := hid (show Tm.anyN (wrongB ds) (Tm.mk 8 u1 n1 (Ty.mk tk1 tn1 tks1) ns1 ks1) = ks1.any (Tm.anyN (wrongB ds)) by rw [HAN0.out, hf, decide_eq_true hl]; rfl)
      clear hf hl
      go_enter Tryz.func49, Tryz.ntmps49
      go_wp2_with fail
      refine (HCN.out _ (Below.refl _ _)).mono ?_
      rintro e w1 ⟨rfl, hb⟩
      have e7 := cell_regrown ((hb.cell (p := ⟨b1, o1 + 7, none⟩) XL.out).trans X7.out)
      have p1 := cell_regrown ((hb.cell (p := ⟨bd, od + j * 2 + 1, none⟩) HBD.out).trans P1.out)
      have s1 := cell_regrown ((hb.cell (p := ⟨bc, oc + q * 2 + 1, none⟩) HBC.out).trans S1.out)
      have HB1 := hid hb
      clear hb x0 x1 x2 x3 x4 x5 x6 x7
      go_wp2_with fail
      refine wp_region_quiet_below (by kernel_rfl) (by kernel_rfl) ?_
      repeat (go_big_quiet_step (fail))
      refine wpQuiet_nil ?_
      intro w3 hw'
      obtain ⟨⟨dq, osq⟩, hw''⟩ := hw'
      have hb3 : Below w1.heap.size w1 w3 := by subst hw''; exact below_regrown w1 dq osq
      clear hw''
      have HB3 := hid (HB1.out.trans (hb3.mono HB1.out.size))
      clear e7 p1 s1 hb3
      have HBL := HB3
      go_wp2_with fail
      go_loopw [7] (fun i wr => ∃ (j : Nat), j ≤ ks1.length ∧ i = .int .i64 j ∧ Hid (∀ (i : Nat) t, i < j → ks1[i]? = some t → Tm.anyN (wrongB ds) t = false) ∧ Hid (Below w.heap.size w wr)) (fun i _ => ks1.length - (intOf i).toNat)
      case atStart => exact ⟨0, by omega, rfl, fun i t hi => absurd hi (by omega), HBL⟩
      case round =>
        obtain ⟨j, hj, rfl, HJ, HB⟩ := hrel
        have z7 := (HB.out.cell (p := ⟨b1, o1 + 7, none⟩) XL.out).trans X7.out
        by_cases hlt : j < ks1.length
        case neg =>
          have HE := hid (show (!Tm.anyN (wrongB ds) (Tm.mk 8 u1 n1 (Ty.mk tk1 tn1 tks1) ns1 ks1)) = true by rw [HAN.out, any_n (fun i t h => HJ.out i t (by have := (List.getElem?_eq_some_iff.1 h).1; omega) h)]; rfl)
          go_wp2_with fail
          go_ret
          exact ⟨ret_bool HE.out.symm, HB.out⟩
        case pos =>
          obtain ⟨b, o, rfl, hbl, hall⟩ := H4.out (by omega)
          obtain ⟨t, ht⟩ : ∃ t, ks1[j]? = some t := ⟨_, List.getElem?_eq_getElem hlt⟩
          obtain ⟨k3, u3, n3, ⟨tk3, tn3, tks3⟩, ns3, ks3⟩ := t
          obtain ⟨atks3, ctks3, ans3, cns3, aks3, cks3, q0, q1, q2, q3, q4, q5, q6, q7, hrk⟩ := hall j k3 u3 n3 tk3 tn3 tks3 ns3 ks3 ht
          have hbg := Tm.bulk_get ks1 j _ ht
          have hc := IH.out k3 u3 n3 tk3 tn3 tks3 ns3 ks3 atks3 ctks3 ans3 cns3 aks3 cks3 b (o + j * 8) wr (by have := HK.out; have := HN.out; omega) (by have := HK.out; have := HM.out; omega) (named1_kid HNM.out ht) ((HB.out.cell (p := ⟨b, o + j * 8, none⟩) hbl).trans q0) ((HB.out.cell (p := ⟨b, o + j * 8 + 1, none⟩) hbl).trans q1) ((HB.out.cell (p := ⟨b, o + j * 8 + 2, none⟩) hbl).trans q2) ((HB.out.cell (p := ⟨b, o + j * 8 + 3, none⟩) hbl).trans q3) ((HB.out.cell (p := ⟨b, o + j * 8 + 4, none⟩) hbl).trans q4) ((HB.out.cell (p := ⟨b, o + j * 8 + 5, none⟩) hbl).trans q5) ((HB.out.cell (p := ⟨b, o + j * 8 + 6, none⟩) hbl).trans q6) ((HB.out.cell (p := ⟨b, o + j * 8 + 7, none⟩) hbl).trans q7) (HD.out.below HB.out) (hrk.below HB.out)
          have HT := hid ht
          clear hall H4 q0 q1 q2 q3 q4 q5 q6 q7 hrk ht hbg
          cases hq : Tm.anyN (wrongB ds) (Tm.mk k3 u3 n3 (Ty.mk tk3 tn3 tks3) ns3 ks3)
          case true =>
            rw [hq] at hc
            have HC := hid hc
            have HE := hid (show (!Tm.anyN (wrongB ds) (Tm.mk 8 u1 n1 (Ty.mk tk1 tn1 tks1) ns1 ks1)) = false by rw [HAN.out, any_y HT.out hq]; rfl)
            clear hc hq
            go_wp2_with fail
            refine HC.out.mono ?_
            rintro e w3 ⟨rfl, hb⟩
            have HB3 := hid (HB.out.trans (hb.mono HB.out.size))
            clear hb z7
            go_wp2_with fail
            go_ret
            exact ⟨ret_bool HE.out.symm, HB3.out⟩
          case false =>
            rw [hq] at hc
            have HC := hid hc
            have HQ := hid hq
            clear hc hq
            go_wp2_with fail
            refine HC.out.mono ?_
            rintro e w3 ⟨rfl, hb⟩
            have HB3 := hid (HB.out.trans (hb.mono HB.out.size))
            clear hb z7
            go_wp2_with fail
            go_roundw
            case rel =>
              refine ⟨j + 1, by omega, by go_num, hid fun i t hi h => ?_, HB3⟩
              rcases Nat.lt_succ_iff_lt_or_eq.1 hi with hi | rfl
              · exact HJ.out i t hi h
              · obtain rfl := Option.some.inj (h.symm.trans HT.out)
                exact HQ.out
            case measure => simp [intOf]; omega
  case neg =>
  have g8 : (k1 == 8) = false := by simp [hk8]
  by_cases hk9 : k1 = 9
  case pos =>
    subst hk9
    have hf := wrongB_match ds u1 n1 (Ty.mk tk1 tn1 tks1) ns1 ks1
    obtain ⟨hl2, hcn1⟩ := named1_match HNM.out
    have hcf := spec_CasesFit ds ads cds hD ks1 _ cks1 b1 o1 w hl2 hlk hcn1 X7.out HD.out HRK.out
    clear hcn hl2 hcn1
    cases hq : casesEq (ks1.drop 1) (consAt ds (conIdx ds (name1 ks1)))
    case false =>
      rw [hq] at hf hcf
      have HCF := hid hcf
      have HE := hid (show (!Tm.anyN (wrongB ds) (Tm.mk 9 u1 n1 (Ty.mk tk1 tn1 tks1) ns1 ks1)) = false by rw [HAN0.out, hf]; rfl)
      clear hf hq hcf hr IH H4 HK HM HN HRK HNM
      go_enter Tryz.func49, Tryz.ntmps49
      go_wp2_with fail
      refine HCF.out.mono ?_
      rintro e w1 ⟨rfl, hb⟩
      go_wp2_with fail
      go_ret
      exact ⟨ret_bool HE.out.symm, hb⟩
    case true =>
      rw [hq] at hf hcf
      have HCF := hid hcf
      have HAN := hid (show Tm.anyN (wrongB ds) (Tm.mk 9 u1 n1 (Ty.mk tk1 tn1 tks1) ns1 ks1) = ks1.any (Tm.anyN (wrongB ds)) by rw [HAN0.out, hf]; rfl)
      clear hf hq hcf hr
      go_enter Tryz.func49, Tryz.ntmps49
      go_wp2_with fail
      refine HCF.out.mono ?_
      rintro e w1 ⟨rfl, hb⟩
      have HBL := hid hb
      clear hb x0 x1 x2 x3 x4 x5 x6 x7
      go_wp2_with fail
      go_loopw [7] (fun i wr => ∃ (j : Nat), j ≤ ks1.length ∧ i = .int .i64 j ∧ Hid (∀ (i : Nat) t, i < j → ks1[i]? = some t → Tm.anyN (wrongB ds) t = false) ∧ Hid (Below w.heap.size w wr)) (fun i _ => ks1.length - (intOf i).toNat)
      case atStart => exact ⟨0, by omega, rfl, fun i t hi => absurd hi (by omega), HBL⟩
      case round =>
        obtain ⟨j, hj, rfl, HJ, HB⟩ := hrel
        have z7 := (HB.out.cell (p := ⟨b1, o1 + 7, none⟩) XL.out).trans X7.out
        by_cases hlt : j < ks1.length
        case neg =>
          have HE := hid (show (!Tm.anyN (wrongB ds) (Tm.mk 9 u1 n1 (Ty.mk tk1 tn1 tks1) ns1 ks1)) = true by rw [HAN.out, any_n (fun i t h => HJ.out i t (by have := (List.getElem?_eq_some_iff.1 h).1; omega) h)]; rfl)
          go_wp2_with fail
          go_ret
          exact ⟨ret_bool HE.out.symm, HB.out⟩
        case pos =>
          obtain ⟨b, o, rfl, hbl, hall⟩ := H4.out (by omega)
          obtain ⟨t, ht⟩ : ∃ t, ks1[j]? = some t := ⟨_, List.getElem?_eq_getElem hlt⟩
          obtain ⟨k3, u3, n3, ⟨tk3, tn3, tks3⟩, ns3, ks3⟩ := t
          obtain ⟨atks3, ctks3, ans3, cns3, aks3, cks3, q0, q1, q2, q3, q4, q5, q6, q7, hrk⟩ := hall j k3 u3 n3 tk3 tn3 tks3 ns3 ks3 ht
          have hbg := Tm.bulk_get ks1 j _ ht
          have hc := IH.out k3 u3 n3 tk3 tn3 tks3 ns3 ks3 atks3 ctks3 ans3 cns3 aks3 cks3 b (o + j * 8) wr (by have := HK.out; have := HN.out; omega) (by have := HK.out; have := HM.out; omega) (named1_kid HNM.out ht) ((HB.out.cell (p := ⟨b, o + j * 8, none⟩) hbl).trans q0) ((HB.out.cell (p := ⟨b, o + j * 8 + 1, none⟩) hbl).trans q1) ((HB.out.cell (p := ⟨b, o + j * 8 + 2, none⟩) hbl).trans q2) ((HB.out.cell (p := ⟨b, o + j * 8 + 3, none⟩) hbl).trans q3) ((HB.out.cell (p := ⟨b, o + j * 8 + 4, none⟩) hbl).trans q4) ((HB.out.cell (p := ⟨b, o + j * 8 + 5, none⟩) hbl).trans q5) ((HB.out.cell (p := ⟨b, o + j * 8 + 6, none⟩) hbl).trans q6) ((HB.out.cell (p := ⟨b, o + j * 8 + 7, none⟩) hbl).trans q7) (HD.out.below HB.out) (hrk.below HB.out)
          have HT := hid ht
          clear hall H4 q0 q1 q2 q3 q4 q5 q6 q7 hrk ht hbg
          cases hq : Tm.anyN (wrongB ds) (Tm.mk k3 u3 n3 (Ty.mk tk3 tn3 tks3) ns3 ks3)
          case true =>
            rw [hq] at hc
            have HC := hid hc
            have HE := hid (show (!Tm.anyN (wrongB ds) (Tm.mk 9 u1 n1 (Ty.mk tk1 tn1 tks1) ns1 ks1)) = false by rw [HAN.out, any_y HT.out hq]; rfl)
            clear hc hq
            go_wp2_with fail
            refine HC.out.mono ?_
            rintro e w3 ⟨rfl, hb⟩
            have HB3 := hid (HB.out.trans (hb.mono HB.out.size))
            clear hb z7
            go_wp2_with fail
            go_ret
            exact ⟨ret_bool HE.out.symm, HB3.out⟩
          case false =>
            rw [hq] at hc
            have HC := hid hc
            have HQ := hid hq
            clear hc hq
            go_wp2_with fail
            refine HC.out.mono ?_
            rintro e w3 ⟨rfl, hb⟩
            have HB3 := hid (HB.out.trans (hb.mono HB.out.size))
            clear hb z7
            go_wp2_with fail
            go_roundw
            case rel =>
              refine ⟨j + 1, by omega, by go_num, hid fun i t hi h => ?_, HB3⟩
              rcases Nat.lt_succ_iff_lt_or_eq.1 hi with hi | rfl
              · exact HJ.out i t hi h
              · obtain rfl := Option.some.inj (h.symm.trans HT.out)
                exact HQ.out
            case measure => simp [intOf]; omega
  case neg =>
  have g9 : (k1 == 9) = false := by simp [hk9]
  have HAN := hid (show Tm.anyN (wrongB ds) (Tm.mk k1 u1 n1 (Ty.mk tk1 tn1 tks1) ns1 ks1) = ks1.any (Tm.anyN (wrongB ds)) by rw [HAN0.out, wrongB_else ds hk8 hk9]; rfl)
  have HBL := hid (Below.refl w.heap.size w)
  clear hcn hr hk8 hk9
  go_enter Tryz.func49, Tryz.ntmps49
  go_wp2_with fail
  clear x0 x1 x2 x3 x4 x5 x6 x7
  go_loopw [7] (fun i wr => ∃ (j : Nat), j ≤ ks1.length ∧ i = .int .i64 j ∧ Hid (∀ (i : Nat) t, i < j → ks1[i]? = some t → Tm.anyN (wrongB ds) t = false) ∧ Hid (Below w.heap.size w wr)) (fun i _ => ks1.length - (intOf i).toNat)
  case atStart => exact ⟨0, by omega, rfl, fun i t hi => absurd hi (by omega), HBL⟩
  case round =>
    obtain ⟨j, hj, rfl, HJ, HB⟩ := hrel
    have z7 := (HB.out.cell (p := ⟨b1, o1 + 7, none⟩) XL.out).trans X7.out
    by_cases hlt : j < ks1.length
    case neg =>
      have HE := hid (show (!Tm.anyN (wrongB ds) (Tm.mk k1 u1 n1 (Ty.mk tk1 tn1 tks1) ns1 ks1)) = true by rw [HAN.out, any_n (fun i t h => HJ.out i t (by have := (List.getElem?_eq_some_iff.1 h).1; omega) h)]; rfl)
      go_wp2_with fail
      go_ret
      exact ⟨ret_bool HE.out.symm, HB.out⟩
    case pos =>
      obtain ⟨b, o, rfl, hbl, hall⟩ := H4.out (by omega)
      obtain ⟨t, ht⟩ : ∃ t, ks1[j]? = some t := ⟨_, List.getElem?_eq_getElem hlt⟩
      obtain ⟨k3, u3, n3, ⟨tk3, tn3, tks3⟩, ns3, ks3⟩ := t
      obtain ⟨atks3, ctks3, ans3, cns3, aks3, cks3, q0, q1, q2, q3, q4, q5, q6, q7, hrk⟩ := hall j k3 u3 n3 tk3 tn3 tks3 ns3 ks3 ht
      have hbg := Tm.bulk_get ks1 j _ ht
      have hc := IH.out k3 u3 n3 tk3 tn3 tks3 ns3 ks3 atks3 ctks3 ans3 cns3 aks3 cks3 b (o + j * 8) wr (by have := HK.out; have := HN.out; omega) (by have := HK.out; have := HM.out; omega) (named1_kid HNM.out ht) ((HB.out.cell (p := ⟨b, o + j * 8, none⟩) hbl).trans q0) ((HB.out.cell (p := ⟨b, o + j * 8 + 1, none⟩) hbl).trans q1) ((HB.out.cell (p := ⟨b, o + j * 8 + 2, none⟩) hbl).trans q2) ((HB.out.cell (p := ⟨b, o + j * 8 + 3, none⟩) hbl).trans q3) ((HB.out.cell (p := ⟨b, o + j * 8 + 4, none⟩) hbl).trans q4) ((HB.out.cell (p := ⟨b, o + j * 8 + 5, none⟩) hbl).trans q5) ((HB.out.cell (p := ⟨b, o + j * 8 + 6, none⟩) hbl).trans q6) ((HB.out.cell (p := ⟨b, o + j * 8 + 7, none⟩) hbl).trans q7) (HD.out.below HB.out) (hrk.below HB.out)
      have HT := hid ht
      clear hall H4 q0 q1 q2 q3 q4 q5 q6 q7 hrk ht hbg
      cases hq : Tm.anyN (wrongB ds) (Tm.mk k3 u3 n3 (Ty.mk tk3 tn3 tks3) ns3 ks3)
      case true =>
        rw [hq] at hc
        have HC := hid hc
        have HE := hid (show (!Tm.anyN (wrongB ds) (Tm.mk k1 u1 n1 (Ty.mk tk1 tn1 tks1) ns1 ks1)) = false by rw [HAN.out, any_y HT.out hq]; rfl)
        clear hc hq
        go_wp2_with fail
        refine HC.out.mono ?_
        rintro e w3 ⟨rfl, hb⟩
        have HB3 := hid (HB.out.trans (hb.mono HB.out.size))
        clear hb z7
        go_wp2_with fail
        go_ret
        exact ⟨ret_bool HE.out.symm, HB3.out⟩
      case false =>
        rw [hq] at hc
        have HC := hid hc
        have HQ := hid hq
        clear hc hq
        go_wp2_with fail
        refine HC.out.mono ?_
        rintro e w3 ⟨rfl, hb⟩
        have HB3 := hid (HB.out.trans (hb.mono HB.out.size))
        clear hb z7
        go_wp2_with fail
        go_roundw
        case rel =>
          refine ⟨j + 1, by omega, by go_num, hid fun i t hi h => ?_, HB3⟩
          rcases Nat.lt_succ_iff_lt_or_eq.1 hi with hi | rfl
          · exact HJ.out i t hi h
          · obtain rfl := Option.some.inj (h.symm.trans HT.out)
            exact HQ.out
        case measure => simp [intOf]; omega
theorem countsFit_all (ds : List Dat) (ads : Option Addr) (cds : Nat) (hD : Dat.bulks ds ≤ 1048576) : ∀ N, UfW ds ads cds N
  | 0 => fun _ _ _ _ _ _ _ _ _ _ _ _ _ _ _ _ _ h => absurd h (by omega)
  | N + 1 => countsFit_step ds ads cds hD N (countsFit_all ds ads cds hD N)
end Go.Proofs.YtgpefnlpbjnjbaaGreat

namespace Go.Proofs.YtgpefnlpbjnjbaaGreat
open Go.ChangeShapes Go.WideShapes Go.ChangeAt Go.RowKit Go.BigFrame
open Go.Sort (grow)
set_option linter.unusedVariables false

set_option maxRecDepth 100000 in
set_option maxHeartbeats 4000000 in
theorem spec_l03Program (ds1 : List Dat) (fs1 : List Df) (ads1 : Option Addr) (cds1 : Nat) (afs1 : Option Addr) (cfs1 : Nat) (b1 o1 : Nat) (w : World) (hM : Pg.bulk (Pg.mk ds1 fs1) ≤ 1048576) (x0 : w.cell? ⟨b1, o1, none⟩ = some (.slice ads1 ds1.length cds1)) (x1 : w.cell? ⟨b1, o1 + 1, none⟩ = some (.slice afs1 fs1.length cfs1)) (hr : RdS w (Pg.d (Pg.mk ds1 fs1)) [.slice ads1 ds1.length cds1, .slice afs1 fs1.length cfs1]) :
    Calls Tryz.prog 44 #[.pointer (some ⟨b1, o1, none⟩)] w fun e w' => e = .returned (.bool (progOk ds1 fs1)) ∧ Below w.heap.size w w' := by
  have hlen := Df.bulks_length fs1
  have hfl := hr.fPg.2
  have hdl := hr.fPg.1
  have hMd : Dat.bulks ds1 ≤ 1048576 := by simp only [Pg.bulk] at hM; omega
  have hMf : Df.bulks fs1 ≤ 1048576 := by simp only [Pg.bulk] at hM; omega
  have HFL := hid hfl
  have HMF := hid hMf
  obtain ⟨_, _, e, h2, h3, h4⟩ := hfl.eDf
  simp only [Value.slice.injEq, true_and] at e
  obtain ⟨rfl, rfl⟩ := e
  have H4 := hid h4
  have hlk : fs1.length ≤ 1048576 := by omega
  have XL := hid (World.block_lt_of_cell? _ _ x1)
  have X1 := hid x1
  have hd := spec_l02Ok ds1 ads1 cds1 w hMd hdl
  clear hr hfl hdl hM hMd hMf h4 h2 h3 hlen
  by_cases hdo : datasOk ds1 = true
  case neg =>
    have HF := hid (show progOk ds1 fs1 = false by simp [progOk, hdo])
    rw [(Bool.not_eq_true _).mp hdo] at hd
    have HD := hid hd
    clear hd hdo
    go_enter Tryz.func44, Tryz.ntmps44
    go_wp2_with fail
    refine HD.out.mono ?_
    rintro e w1 ⟨rfl, hb⟩
    have HB1 := hid hb
    clear hb x0 x1
    go_wp2_with fail
    go_ret
    exact ⟨ret_bool HF.out.symm, HB1.out⟩
  case pos =>
  have HF0 := hid (show progOk ds1 fs1 = (inR fs1.length 1 8 && dfsOk fs1 fs1 0) by rw [progOk, hdo]; rfl)
  rw [hdo] at hd
  have HD := hid hd
  clear hd hdo
  by_cases hin : inR fs1.length 1 8 = true
  case neg =>
    have HF := hid (show progOk ds1 fs1 = false by rw [HF0.out, (Bool.not_eq_true _).mp hin]; rfl)
    have HIN := hid ((Bool.not_eq_true _).mp hin)
    clear hin
    go_enter Tryz.func44, Tryz.ntmps44
    go_wp2_with fail
    refine HD.out.mono ?_
    rintro e w1 ⟨rfl, hb⟩
    have HB1 := hid hb
    have z1 := (hb.cell (p := ⟨b1, o1 + 1, none⟩) XL.out).trans X1.out
    clear hb x0 x1
    go_wp2_with fail
    refine (spec_In _ _ _ _).mono ?_
    rw [HIN.out]
    rintro e w2 ⟨rfl, rfl⟩
    go_wp2_with fail
    go_ret
    exact ⟨ret_bool HF.out.symm, HB1.out⟩
  case pos =>
  have HF := hid (show progOk ds1 fs1 = dfsOk fs1 fs1 0 by rw [HF0.out, hin]; rfl)
  have HIN := hid hin
  clear hin
  go_enter Tryz.func44, Tryz.ntmps44
  go_wp2_with fail
  refine HD.out.mono ?_
  rintro e w1 ⟨rfl, hb⟩
  have HB1 := hid hb
  have z1 := (hb.cell (p := ⟨b1, o1 + 1, none⟩) XL.out).trans X1.out
  clear hb x0 x1
  go_wp2_with fail
  refine (spec_In _ _ _ _).mono ?_
  rw [HIN.out]
  rintro e w2 ⟨rfl, rfl⟩
  clear HD
  go_wp2_with fail
  go_loopw [3] (fun i wr => ∃ (j : Nat), j ≤ fs1.length ∧ i = .int .i64 j ∧ Hid (∀ (i : Nat) t, i < j → fs1[i]? = some t → dfOk fs1 i t = true) ∧ Below w.heap.size w wr) (fun i _ => fs1.length - (intOf i).toNat)
  case atStart => exact ⟨0, by omega, rfl, fun i t hi => absurd hi (by omega), HB1.out⟩
  case round =>
    obtain ⟨j, hj, rfl, HJ, hb0⟩ := hrel
    have zr1 := (hb0.cell (p := ⟨b1, o1 + 1, none⟩) XL.out).trans X1.out
    have zq1 := cell_regrown zr1
    by_cases hlt : j < fs1.length
    case neg =>
      go_wp2_with fail
      go_ret
      exact ⟨ret_bool (by rw [HF.out, dfsOk_yes fs1 fs1 0 fun i t hti => by rw [Nat.zero_add]; exact HJ.out i t (by have := (List.getElem?_eq_some_iff.1 hti).1; omega) hti]), hb0⟩
    case pos =>
      obtain ⟨b, o, rfl, hbl, hall⟩ := H4.out (by omega)
      obtain ⟨t, ht⟩ : ∃ t, fs1[j]? = some t := ⟨_, List.getElem?_eq_getElem hlt⟩
      obtain ⟨n3, ⟨tk3, tn3, tks3⟩, ⟨bk3, bu3, bn3, ⟨btk3, btn3, btks3⟩, bns3, bks3⟩⟩ := t
      obtain ⟨atks3, ctks3, abtks3, cbtks3, abns3, cbns3, abks3, cbks3, q0, q1, q2, q3, q4, q5, q6, q7, q8, q9, q10, q11, hrk⟩ := hall j n3 tk3 tn3 tks3 bk3 bu3 bn3 btk3 btn3 btks3 bns3 bks3 ht
      clear hall H4
      have HT := hid ht
      have hbg := Df.bulk_get fs1 j _ ht
      have hbk : Df.bulk (Df.mk n3 (Ty.mk tk3 tn3 tks3) (Tm.mk bk3 bu3 bn3 (Ty.mk btk3 btn3 btks3) bns3 bks3)) = n3.size + Ty.bulk (Ty.mk tk3 tn3 tks3) + Tm.bulk (Tm.mk bk3 bu3 bn3 (Ty.mk btk3 btn3 btks3) bns3 bks3) := rfl
      have hMt : Ty.bulk (Ty.mk tk3 tn3 tks3) ≤ 1048576 := by have := HMF.out; omega
      have hMb : Tm.bulk (Tm.mk bk3 bu3 bn3 (Ty.mk btk3 btn3 btks3) bns3 bks3) ≤ 1048576 := by have := HMF.out; omega
      have HLE := hid (namedF_le fs1 j n3 (Ty.mk tk3 tn3 tks3) (Tm.mk bk3 bu3 bn3 (Ty.mk btk3 btn3 btks3) bns3 bks3) ht)
      have HB := hid hb0
      have q0r := cell_regrown ((HB.out.cell (p := ⟨b, o + j * 12, none⟩) hbl).trans q0)
      have q1r := cell_regrown ((HB.out.cell (p := ⟨b, o + j * 12 + 1, none⟩) hbl).trans q1)
      have q2r := cell_regrown ((HB.out.cell (p := ⟨b, o + j * 12 + 2, none⟩) hbl).trans q2)
      have q3r := cell_regrown ((HB.out.cell (p := ⟨b, o + j * 12 + 3, none⟩) hbl).trans q3)
      have q4r := cell_regrown ((HB.out.cell (p := ⟨b, o + j * 12 + 4, none⟩) hbl).trans q4)
      have q5r := cell_regrown ((HB.out.cell (p := ⟨b, o + j * 12 + 5, none⟩) hbl).trans q5)
      have q6r := cell_regrown ((HB.out.cell (p := ⟨b, o + j * 12 + 6, none⟩) hbl).trans q6)
      have q7r := cell_regrown ((HB.out.cell (p := ⟨b, o + j * 12 + 7, none⟩) hbl).trans q7)
      have q8r := cell_regrown ((HB.out.cell (p := ⟨b, o + j * 12 + 8, none⟩) hbl).trans q8)
      have q9r := cell_regrown ((HB.out.cell (p := ⟨b, o + j * 12 + 9, none⟩) hbl).trans q9)
      have q10r := cell_regrown ((HB.out.cell (p := ⟨b, o + j * 12 + 10, none⟩) hbl).trans q10)
      have q11r := cell_regrown ((HB.out.cell (p := ⟨b, o + j * 12 + 11, none⟩) hbl).trans q11)
      have hv := fun d os => Calls.regrown_of (spec_IsLower n3 (grow (redrawn wr d) os))
      have hn := fun d os => Calls.regrown_of (calls_below (spec_l03Named fs1 (some ⟨b, o, none⟩) cfs1 n3 (grow (redrawn wr d) os) ((HFL.out.below HB.out).below (below_regrown wr d os))))
      have hvt := fun d os => Calls.regrown_of (spec_ValidType tk3 tn3 tks3 atks3 ctks3 (grow (redrawn wr d) os) hMt (((RdS.subDf_t hrk).below HB.out).below (below_regrown wr d os)))
      have hvb := fun d os => Calls.regrown_of (spec_l03Ok bk3 bu3 bn3 btk3 btn3 btks3 bns3 bks3 abtks3 cbtks3 abns3 cbns3 abks3 cbks3 b (o + j * 12 + 4) (grow (redrawn wr d) os) hMb (q4r d os) (q5r d os) (q6r d os) (q7r d os) (q8r d os) (q9r d os) (q10r d os) (q11r d os) (((RdS.subDf_b hrk).below HB.out).below (below_regrown wr d os)))
      generalize hr2 : namedF fs1 n3 = r at hn
      have HR2 := hid hr2
      clear ht hrk hbg hbk hMt hMb hr2 hb0
      by_cases t1 : isLowerB n3 = true
      case neg =>
        have HDF := hid (show dfOk fs1 j (Df.mk n3 (Ty.mk tk3 tn3 tks3) (Tm.mk bk3 bu3 bn3 (Ty.mk btk3 btn3 btks3) bns3 bks3)) = false by rw [dfOk_eq]; simp [t1])
        rw [(Bool.not_eq_true _).mp t1] at hv
        have HV := hid hv
        have HN := hid hn
        have HTY := hid hvt
        have HTM := hid hvb
        clear hv hn hvt hvb t1
        go_wp2_with fail
        refine wp_region_quiet_below (by kernel_rfl) (by kernel_rfl) ?_
        repeat (go_big_quiet_step (first | exact HV.out _ _ | exact HN.out _ _ | exact HTY.out _ _ | exact HTM.out _ _))
        refine wpQuiet_nil ?_
        intro _ hw'
        obtain ⟨⟨dq, osq⟩, hw''⟩ := hw'
        subst hw''
        have hbw := HB.out.trans ((below_regrown wr dq osq).mono HB.out.size)
        clear HV HN HTY HTM zr1 zq1 q0r q1r q2r q3r q4r q5r q6r q7r q8r q9r q10r q11r q0 q1 q2 q3 q4 q5 q6 q7 q8 q9 q10 q11
        go_wp2_with fail
        go_ret
        exact ⟨ret_bool (by rw [HF.out, dfsOk_no fs1 fs1 0 j _ HT.out (by rw [Nat.zero_add]; exact HDF.out)]), hbw⟩
      case pos =>
      by_cases t2 : namedF fs1 n3 = j
      case neg =>
        have HDF := hid (show dfOk fs1 j (Df.mk n3 (Ty.mk tk3 tn3 tks3) (Tm.mk bk3 bu3 bn3 (Ty.mk btk3 btn3 btks3) bns3 bks3)) = false by rw [dfOk_eq]; simp [t1, t2])
        rw [t1] at hv
        have g2 : (r == (j : Int)) = false := by rw [← HR2.out]; simpa using t2
        have g2' : (r != (j : Int)) = true := by rw [← HR2.out]; simpa using t2
        have HV := hid hv
        have HN := hid hn
        have HTY := hid hvt
        have HTM := hid hvb
        clear hv hn hvt hvb t1 t2
        go_wp2_with fail
        refine wp_region_quiet_below (by kernel_rfl) (by kernel_rfl) ?_
        repeat (go_big_quiet_step (first | exact HV.out _ _ | exact HN.out _ _ | exact HTY.out _ _ | exact HTM.out _ _))
        refine wpQuiet_nil ?_
        intro _ hw'
        obtain ⟨⟨dq, osq⟩, hw''⟩ := hw'
        subst hw''
        have hbw := HB.out.trans ((below_regrown wr dq osq).mono HB.out.size)
        clear HV HN HTY HTM zr1 zq1 q0r q1r q2r q3r q4r q5r q6r q7r q8r q9r q10r q11r q0 q1 q2 q3 q4 q5 q6 q7 q8 q9 q10 q11
        go_wp2_with fail
        go_ret
        exact ⟨ret_bool (by rw [HF.out, dfsOk_no fs1 fs1 0 j _ HT.out (by rw [Nat.zero_add]; exact HDF.out)]), hbw⟩
      case pos =>
      by_cases t3 : Ty.ok (Ty.mk tk3 tn3 tks3) = true
      case neg =>
        have HDF := hid (show dfOk fs1 j (Df.mk n3 (Ty.mk tk3 tn3 tks3) (Tm.mk bk3 bu3 bn3 (Ty.mk btk3 btn3 btks3) bns3 bks3)) = false by rw [dfOk_eq]; simp [t1, t2, t3])
        rw [t1] at hv
        rw [(Bool.not_eq_true _).mp t3] at hvt
        have g2 : (r == (j : Int)) = true := by rw [← HR2.out, t2]; simp
        have g2' : (r != (j : Int)) = false := by rw [← HR2.out, t2]; simp
        have HV := hid hv
        have HN := hid hn
        have HTY := hid hvt
        have HTM := hid hvb
        clear hv hn hvt hvb t1 t2 t3
        go_wp2_with fail
        refine wp_region_quiet_below (by kernel_rfl) (by kernel_rfl) ?_
        repeat (go_big_quiet_step (first | exact HV.out _ _ | exact HN.out _ _ | exact HTY.out _ _ | exact HTM.out _ _))
        refine wpQuiet_nil ?_
        intro _ hw'
        obtain ⟨⟨dq, osq⟩, hw''⟩ := hw'
        subst hw''
        have hbw := HB.out.trans ((below_regrown wr dq osq).mono HB.out.size)
        clear HV HN HTY HTM zr1 zq1 q0r q1r q2r q3r q4r q5r q6r q7r q8r q9r q10r q11r q0 q1 q2 q3 q4 q5 q6 q7 q8 q9 q10 q11
        go_wp2_with fail
        go_ret
        exact ⟨ret_bool (by rw [HF.out, dfsOk_no fs1 fs1 0 j _ HT.out (by rw [Nat.zero_add]; exact HDF.out)]), hbw⟩
      case pos =>
      by_cases t4 : Tm.ok (Tm.mk bk3 bu3 bn3 (Ty.mk btk3 btn3 btks3) bns3 bks3) = true
      case neg =>
        have HDF := hid (show dfOk fs1 j (Df.mk n3 (Ty.mk tk3 tn3 tks3) (Tm.mk bk3 bu3 bn3 (Ty.mk btk3 btn3 btks3) bns3 bks3)) = false by rw [dfOk_eq]; simp [t1, t2, t3, t4])
        rw [t1] at hv
        rw [t3] at hvt
        rw [(Bool.not_eq_true _).mp t4] at hvb
        have g2 : (r == (j : Int)) = true := by rw [← HR2.out, t2]; simp
        have g2' : (r != (j : Int)) = false := by rw [← HR2.out, t2]; simp
        have HV := hid hv
        have HN := hid hn
        have HTY := hid hvt
        have HTM := hid hvb
        clear hv hn hvt hvb t1 t2 t3 t4
        go_wp2_with fail
        refine wp_region_quiet_below (by kernel_rfl) (by kernel_rfl) ?_
        repeat (go_big_quiet_step (first | exact HV.out _ _ | exact HN.out _ _ | exact HTY.out _ _ | exact HTM.out _ _))
        refine wpQuiet_nil ?_
        intro _ hw'
        obtain ⟨⟨dq, osq⟩, hw''⟩ := hw'
        subst hw''
        have hbw := HB.out.trans ((below_regrown wr dq osq).mono HB.out.size)
        clear HV HN HTY HTM zr1 zq1 q0r q1r q2r q3r q4r q5r q6r q7r q8r q9r q10r q11r q0 q1 q2 q3 q4 q5 q6 q7 q8 q9 q10 q11
        go_wp2_with fail
        go_ret
        exact ⟨ret_bool (by rw [HF.out, dfsOk_no fs1 fs1 0 j _ HT.out (by rw [Nat.zero_add]; exact HDF.out)]), hbw⟩
      case pos =>
      have HDF := hid (show dfOk fs1 j (Df.mk n3 (Ty.mk tk3 tn3 tks3) (Tm.mk bk3 bu3 bn3 (Ty.mk btk3 btn3 btks3) bns3 bks3)) = true by rw [dfOk_eq]; simp [t1, t2, t3, t4])
      rw [t1] at hv
      rw [t3] at hvt
      rw [t4] at hvb
      have g2 : (r == (j : Int)) = true := by rw [← HR2.out, t2]; simp
      have g2' : (r != (j : Int)) = false := by rw [← HR2.out, t2]; simp
      have HV := hid hv
      have HN := hid hn
      have HTY := hid hvt
      have HTM := hid hvb
      clear hv hn hvt hvb t1 t2 t3 t4
      go_wp2_with fail
      refine wp_region_quiet_below (by kernel_rfl) (by kernel_rfl) ?_
      repeat (go_big_quiet_step (first | exact HV.out _ _ | exact HN.out _ _ | exact HTY.out _ _ | exact HTM.out _ _))
      refine wpQuiet_nil ?_
      intro _ hw'
      obtain ⟨⟨dq, osq⟩, hw''⟩ := hw'
      subst hw''
      have hbw := HB.out.trans ((below_regrown wr dq osq).mono HB.out.size)
      clear HV HN HTY HTM zr1 zq1 q0r q1r q2r q3r q4r q5r q6r q7r q8r q9r q10r q11r q0 q1 q2 q3 q4 q5 q6 q7 q8 q9 q10 q11
      go_wp2_with fail
      go_roundw
      case rel => exact ⟨j + 1, by omega, by go_num, fun i t hi hti => (Nat.lt_succ_iff_lt_or_eq.1 hi).elim (fun hi => HJ.out i t hi hti) (fun he => by subst he; obtain rfl := Option.some.inj (hti.symm.trans HT.out); exact HDF.out), hbw⟩
      case measure => simp [intOf]; omega

end Go.Proofs.YtgpefnlpbjnjbaaGreat

namespace Go.Proofs.YtgpefnlpbjnjbaaGreat
open Go.ChangeShapes Go.WideShapes Go.ChangeAt Go.RowKit Go.BigFrame
open Go.Sort (grow)
set_option linter.unusedVariables false

set_option maxRecDepth 100000 in
set_option maxHeartbeats 8000000 in
theorem spec_l03Names (ds1 : List Dat) (fs1 : List Df) (ads1 : Option Addr) (cds1 : Nat) (afs1 : Option Addr) (cfs1 : Nat) (b1 o1 : Nat) (w : World) (hM : Pg.bulk (Pg.mk ds1 fs1) ≤ 1048576) (x0 : w.cell? ⟨b1, o1, none⟩ = some (.slice ads1 ds1.length cds1)) (x1 : w.cell? ⟨b1, o1 + 1, none⟩ = some (.slice afs1 fs1.length cfs1)) (hr : RdS w (Pg.d (Pg.mk ds1 fs1)) [.slice ads1 ds1.length cds1, .slice afs1 fs1.length cfs1]) :
    Calls Tryz.prog 21 #[.pointer (some ⟨b1, o1, none⟩)] w fun e w' => e = .returned (.int .i64 (checkN (.mk ds1 fs1))) ∧ Below w.heap.size w w' := by
  have HC := hid (spec_l03Program ds1 fs1 ads1 cds1 afs1 cfs1 b1 o1 w hM x0 x1 hr)
  have hlen := Df.bulks_length fs1
  have hbp : Pg.bulk (Pg.mk ds1 fs1) = Dat.bulks ds1 + Df.bulks fs1 := rfl
  have hMD : Dat.bulks ds1 ≤ 1048576 := by omega
  have HMF := hid (show Df.bulks fs1 ≤ 1048576 by omega)
  have X0 := hid x0
  have X1 := hid x1
  have XL := hid (World.block_lt_of_cell? _ _ x0)
  have HFD := hid hr.fPg.1
  have HFL := hid hr.fPg.2
  have hlf : fs1.length ≤ 1048576 := by omega
  by_cases hok : progOk ds1 fs1 = true
  case neg =>
    have hf := (Bool.not_eq_true _).mp hok
    rw [hf] at HC
    have HE := hid (checkN_bad hf)
    clear hf hok hr hM hbp hlen
    go_enter Tryz.func21, Tryz.ntmps21
    go_wp2_with fail
    refine HC.out.mono ?_
    rintro e w1 ⟨rfl, hb⟩
    go_wp2_with fail
    go_ret
    exact ⟨ret_int HE.out.symm, hb⟩
  case pos =>
  rw [hok] at HC
  have HOK := hid hok
  obtain ⟨_, _, e, h2, h3, h4⟩ := hr.fPg.2.eDf
  simp only [Value.slice.injEq, true_and] at e
  obtain ⟨rfl, rfl⟩ := e
  have H4 := hid h4
  clear h2 h3 h4 hok hr hM hbp hlen
  go_enter Tryz.func21, Tryz.ntmps21
  go_wp2_with fail
  refine HC.out.mono ?_
  rintro e w1 ⟨rfl, hb⟩
  have HB1 := hid hb
  clear hb x0 x1 HC
  go_wp2_with fail
  go_loopw [3] (fun i wr => ∃ (j : Nat), j ≤ fs1.length ∧ i = .int .i64 j ∧ Hid (∀ (i : Nat) t, i < j → fs1[i]? = some t → unknownD ds1 fs1 t = false) ∧ Hid (Below w.heap.size w wr)) (fun i _ => fs1.length - (intOf i).toNat)
  case atStart => exact ⟨0, by omega, rfl, fun i t hi => absurd hi (by omega), HB1⟩
  case round =>
    obtain ⟨j, hj, rfl, HJ, HB⟩ := hrel
    obtain ⟨wo, hwo⟩ : ∃ wo, wo = wr := ⟨_, rfl⟩
    subst hwo
    have z1 := (HB.out.cell (p := ⟨b1, o1 + 1, none⟩) XL.out).trans X1.out
    by_cases hlt : j < fs1.length
    case neg =>
      have HUN := hid (show fs1.any (unknownD ds1 fs1) = false from any_n (fun i t h => HJ.out i t (by have := (List.getElem?_eq_some_iff.1 h).1; omega) h))
      clear HJ HB1
      go_wp2_with fail
      clear z1
      go_loopw [7] (fun i wr => ∃ (j : Nat), j ≤ fs1.length ∧ i = .int .i64 j ∧ Hid (∀ (i : Nat) t, i < j → fs1[i]? = some t → wrongD ds1 t = false) ∧ Hid (Below w.heap.size w wr)) (fun i _ => fs1.length - (intOf i).toNat)
      case atStart => exact ⟨0, by omega, rfl, fun i t hi => absurd hi (by omega), HB⟩
      case round =>
        obtain ⟨j, hj, rfl, HJ, HB⟩ := hrel
        have z1 := (HB.out.cell (p := ⟨b1, o1 + 1, none⟩) XL.out).trans X1.out
        by_cases hlt : j < fs1.length
        case neg =>
          have HE := hid (checkN_ok HOK.out HUN.out (any_n (fun i t h => HJ.out i t (by have := (List.getElem?_eq_some_iff.1 h).1; omega) h)))
          go_wp2_with fail
          go_ret
          exact ⟨ret_int HE.out.symm, HB.out⟩
        case pos =>
          have y0 := cell_regrown ((HB.out.cell (p := ⟨b1, o1, none⟩) XL.out).trans X0.out)
          have y1 := cell_regrown z1
          obtain ⟨b, o, rfl, hbl, hall⟩ := H4.out (by omega)
          obtain ⟨t, ht⟩ : ∃ t, fs1[j]? = some t := ⟨_, List.getElem?_eq_getElem hlt⟩
          obtain ⟨n3, ⟨tk3, tn3, tks3⟩, ⟨bk3, bu3, bn3, ⟨btk3, btn3, btks3⟩, bns3, bks3⟩⟩ := t
          obtain ⟨atks3, ctks3, abtks3, cbtks3, abns3, cbns3, abks3, cbks3, q0, q1, q2, q3, q4, q5, q6, q7, q8, q9, q10, q11, hrk⟩ := hall j n3 tk3 tn3 tks3 bk3 bu3 bn3 btk3 btn3 btks3 bns3 bks3 ht
          clear hall H4
          have HT := hid ht
          have hbg := Df.bulk_get fs1 j _ ht
          have hbk : Df.bulk (Df.mk n3 (Ty.mk tk3 tn3 tks3) (Tm.mk bk3 bu3 bn3 (Ty.mk btk3 btn3 btks3) bns3 bks3)) = n3.size + Ty.bulk (Ty.mk tk3 tn3 tks3) + Tm.bulk (Tm.mk bk3 bu3 bn3 (Ty.mk btk3 btn3 btks3) bns3 bks3) := rfl
          have hMt : Ty.bulk (Ty.mk tk3 tn3 tks3) ≤ 1048576 := by have := HMF.out; omega
          have hMb : Tm.bulk (Tm.mk bk3 bu3 bn3 (Ty.mk btk3 btn3 btks3) bns3 bks3) ≤ 1048576 := by have := HMF.out; omega
          clear hbg hbk
          have q0r := cell_regrown ((HB.out.cell (p := ⟨b, o + j * 12, none⟩) hbl).trans q0)
          have q1r := cell_regrown ((HB.out.cell (p := ⟨b, o + j * 12 + 1, none⟩) hbl).trans q1)
          have q2r := cell_regrown ((HB.out.cell (p := ⟨b, o + j * 12 + 2, none⟩) hbl).trans q2)
          have q3r := cell_regrown ((HB.out.cell (p := ⟨b, o + j * 12 + 3, none⟩) hbl).trans q3)
          have q4r := cell_regrown ((HB.out.cell (p := ⟨b, o + j * 12 + 4, none⟩) hbl).trans q4)
          have q5r := cell_regrown ((HB.out.cell (p := ⟨b, o + j * 12 + 5, none⟩) hbl).trans q5)
          have q6r := cell_regrown ((HB.out.cell (p := ⟨b, o + j * 12 + 6, none⟩) hbl).trans q6)
          have q7r := cell_regrown ((HB.out.cell (p := ⟨b, o + j * 12 + 7, none⟩) hbl).trans q7)
          have q8r := cell_regrown ((HB.out.cell (p := ⟨b, o + j * 12 + 8, none⟩) hbl).trans q8)
          have q9r := cell_regrown ((HB.out.cell (p := ⟨b, o + j * 12 + 9, none⟩) hbl).trans q9)
          have q10r := cell_regrown ((HB.out.cell (p := ⟨b, o + j * 12 + 10, none⟩) hbl).trans q10)
          have q11r := cell_regrown ((HB.out.cell (p := ⟨b, o + j * 12 + 11, none⟩) hbl).trans q11)
          clear q0 q1 q2 q3 q4 q5 q6 q7 q8 q9 q10 q11
          have hnm : named1 ds1 (Tm.mk bk3 bu3 bn3 (Ty.mk btk3 btn3 btks3) bns3 bks3) := ⟨(prog_def HOK.out ht).2, by have h := any_g HUN.out ht; rw [unknownD_mk, Bool.or_eq_false_iff, Bool.or_eq_false_iff] at h; exact h.2.2⟩
          have hc := fun d os => Calls.regrown_of (countsFit_all ds1 ads1 cds1 hMD (Tm.bulk (Tm.mk bk3 bu3 bn3 (Ty.mk btk3 btn3 btks3) bns3 bks3) + 1) bk3 bu3 bn3 btk3 btn3 btks3 bns3 bks3 abtks3 cbtks3 abns3 cbns3 abks3 cbks3 b (o + j * 12 + 4) (grow (redrawn wr d) os) (by omega) hMb hnm (q4r d os) (q5r d os) (q6r d os) (q7r d os) (q8r d os) (q9r d os) (q10r d os) (q11r d os) ((HFD.out.below HB.out).below (below_regrown wr d os)) (((RdS.subDf_b hrk).below HB.out).below (below_regrown wr d os)))
          have HWD := hid (show wrongD ds1 (Df.mk n3 (Ty.mk tk3 tn3 tks3) (Tm.mk bk3 bu3 bn3 (Ty.mk btk3 btn3 btks3) bns3 bks3)) = Tm.anyN (wrongB ds1) (Tm.mk bk3 bu3 bn3 (Ty.mk btk3 btn3 btks3) bns3 bks3) from rfl)
          clear ht hrk hMb hMt hnm q0r q1r q2r q3r q4r q5r q6r q7r q8r q9r q10r q11r
          cases hq : Tm.anyN (wrongB ds1) (Tm.mk bk3 bu3 bn3 (Ty.mk btk3 btn3 btks3) bns3 bks3)
          case true =>
            rw [hq] at hc HWD
            have HC := hid hc
            have HE := hid (checkN_range HOK.out HUN.out (any_y HT.out HWD.out))
            clear hc hq
            go_wp2_with fail
            clear z1
            refine wp_region_quiet_below (by kernel_rfl) (by kernel_rfl) ?_
            repeat (go_big_quiet_step (exact HC.out _ _))
            refine wpQuiet_nil ?_
            intro w3 hw'
            obtain ⟨⟨dq, osq⟩, hw''⟩ := hw'
            have hb3 : Below wr.heap.size wr w3 := by subst hw''; exact below_regrown wr dq osq
            clear hw''
            clear y0 y1
            go_wp2_with fail
            go_ret
            exact ⟨ret_int HE.out.symm, HB.out.trans (hb3.mono HB.out.size)⟩
          case false =>
            rw [hq] at hc HWD
            have HC := hid hc
            clear hc hq
            go_wp2_with fail
            clear z1
            refine wp_region_quiet_below (by kernel_rfl) (by kernel_rfl) ?_
            repeat (go_big_quiet_step (exact HC.out _ _))
            refine wpQuiet_nil ?_
            intro w3 hw'
            obtain ⟨⟨dq, osq⟩, hw''⟩ := hw'
            have hb3 : Below wr.heap.size wr w3 := by subst hw''; exact below_regrown wr dq osq
            clear hw''
            have HB3 := hid (HB.out.trans (hb3.mono HB.out.size))
            clear y0 y1 hb3
            go_wp2_with fail
            go_roundw
            case rel =>
              refine ⟨j + 1, by omega, by go_num, hid fun i t hi h => ?_, HB3⟩
              rcases Nat.lt_succ_iff_lt_or_eq.1 hi with hi | rfl
              · exact HJ.out i t hi h
              · obtain rfl := Option.some.inj (h.symm.trans HT.out)
                exact HWD.out
            case measure => simp [intOf]; omega
    case pos =>
      obtain ⟨b, o, rfl, hbl, hall⟩ := H4.out (by omega)
      obtain ⟨t, ht⟩ : ∃ t, fs1[j]? = some t := ⟨_, List.getElem?_eq_getElem hlt⟩
      obtain ⟨n3, ⟨tk3, tn3, tks3⟩, ⟨bk3, bu3, bn3, ⟨btk3, btn3, btks3⟩, bns3, bks3⟩⟩ := t
      obtain ⟨atks3, ctks3, abtks3, cbtks3, abns3, cbns3, abks3, cbks3, q0, q1, q2, q3, q4, q5, q6, q7, q8, q9, q10, q11, hrk⟩ := hall j n3 tk3 tn3 tks3 bk3 bu3 bn3 btk3 btn3 btks3 bns3 bks3 ht
      clear hall H4
      have HT := hid ht
      have hbg := Df.bulk_get fs1 j _ ht
      have hbk : Df.bulk (Df.mk n3 (Ty.mk tk3 tn3 tks3) (Tm.mk bk3 bu3 bn3 (Ty.mk btk3 btn3 btks3) bns3 bks3)) = n3.size + Ty.bulk (Ty.mk tk3 tn3 tks3) + Tm.bulk (Tm.mk bk3 bu3 bn3 (Ty.mk btk3 btn3 btks3) bns3 bks3) := rfl
      have hMt : Ty.bulk (Ty.mk tk3 tn3 tks3) ≤ 1048576 := by have := HMF.out; omega
      have hMb : Tm.bulk (Tm.mk bk3 bu3 bn3 (Ty.mk btk3 btn3 btks3) bns3 bks3) ≤ 1048576 := by have := HMF.out; omega
      clear hbg hbk
      have hfr := spec_free bk3 bu3 bn3 btk3 btn3 btks3 bns3 bks3 abtks3 cbtks3 abns3 cbns3 abks3 cbks3 b (o + j * 12 + 4) (.slice none 0 0) wo wo hMb (prog_def HOK.out ht).2 ((HB.out.cell (p := ⟨b, o + j * 12 + 4, none⟩) hbl).trans q4) ((HB.out.cell (p := ⟨b, o + j * 12 + 6, none⟩) hbl).trans q6) ((HB.out.cell (p := ⟨b, o + j * 12 + 10, none⟩) hbl).trans q10) ((HB.out.cell (p := ⟨b, o + j * 12 + 11, none⟩) hbl).trans q11) ((RdS.subDf_b hrk).below HB.out) (Below.refl _ _) (World.ownsRow_nil _ _ _ _)
      have hfl := Tm.free_len (Tm.mk bk3 bu3 bn3 (Ty.mk btk3 btn3 btks3) bns3 bks3) [] []
      have HUD := hid (unknownD_mk ds1 fs1 n3 (Ty.mk tk3 tn3 tks3) (Tm.mk bk3 bu3 bn3 (Ty.mk btk3 btn3 btks3) bns3 bks3))
      simp only [List.length_nil, Nat.zero_add] at hfl
      generalize Tm.free (Tm.mk bk3 bu3 bn3 (Ty.mk btk3 btn3 btks3) bns3 bks3) [] [] = zs at hfr hfl HUD
      have hzl : zs.length ≤ 1048577 := by omega
      have HFR := hid hfr
      have HHT := hid hrk
      have HQ0 := hid q0
      have HQ1 := hid q1
      have HQ2 := hid q2
      have HQ3 := hid q3
      have HQ4 := hid q4
      have HQ5 := hid q5
      have HQ6 := hid q6
      have HQ7 := hid q7
      have HQ8 := hid q8
      have HQ9 := hid q9
      have HQ10 := hid q10
      have HQ11 := hid q11
      have HMB := hid hMb
      have HMT := hid hMt
      clear hfr hfl ht hrk hMb hMt q0 q1 q2 q3 q4 q5 q6 q7 q8 q9 q10 q11
      go_wp2_with fail
      refine HFR.out.mono ?_
      rintro e w2 ⟨af, cf, rfl, hof, hb2⟩
      have HB2 := hid (HB.out.trans (hb2.mono HB.out.size))
      obtain ⟨_, _, e, h2z, h3z, h4z⟩ := hof.rd.eSr
      simp only [Value.slice.injEq, true_and] at e
      obtain ⟨rfl, rfl⟩ := e
      have H4Z := hid h4z
      clear hof hb2 h2z h3z h4z z1
      go_wp2_with fail
      go_loopw [6] (fun i wr => ∃ (k : Nat), k ≤ zs.length ∧ i = .int .i64 k ∧ Hid (∀ (i : Nat) t, i < k → zs[i]? = some t → noDef fs1 t = false) ∧ Hid (Below w2.heap.size w2 wr)) (fun i _ => zs.length - (intOf i).toNat)
      case atStart => exact ⟨0, by omega, rfl, fun i t hi => absurd hi (by omega), Below.refl _ _⟩
      case round =>
        obtain ⟨k, hk, rfl, HJK, HBK⟩ := hrel
        have hbw := HB2.out.trans (HBK.out.mono HB2.out.size)
        have HBW := hid hbw
        clear hbw
        have y1 := cell_regrown ((HBW.out.cell (p := ⟨b1, o1 + 1, none⟩) XL.out).trans X1.out)
        by_cases hkl : k < zs.length
        case pos =>
          obtain ⟨bz, oz, rfl, hbz, hallz⟩ := H4Z.out (by omega)
          obtain ⟨nm, hnm⟩ : ∃ t, zs[k]? = some t := ⟨_, List.getElem?_eq_getElem hkl⟩
          have ez := cell_regrown ((HBK.out.cell (p := ⟨bz, oz + k, none⟩) hbz).trans (hallz k nm hnm).1)
          have hc := fun d os => Calls.regrown_of (calls_below (spec_l03Named fs1 (some ⟨b, o, none⟩) cfs1 nm (grow (redrawn wr d) os) ((HFL.out.below HBW.out).below (below_regrown wr d os))))
          have HZ := hid hnm
          have HND := hid (show noDef fs1 nm = decide (namedF fs1 nm < 0) from rfl)
          generalize namedF fs1 nm = r at hc HND
          have HC := hid hc
          clear hallz H4Z hnm hc
          by_cases hneg : r < 0
          case pos =>
            have gr : decide (r < 0) = true := decide_eq_true hneg
            have HE := hid (checkN_name HOK.out (any_y HT.out (HUD.out.trans (by rw [any_y HZ.out (HND.out.trans gr)]; simp))))
            clear hneg
            go_wp2_with fail
            refine wp_region_quiet_below (by kernel_rfl) (by kernel_rfl) ?_
            repeat (go_big_quiet_step (exact HC.out _ _))
            refine wpQuiet_nil ?_
            intro w3 hw'
            obtain ⟨⟨dq, osq⟩, hw''⟩ := hw'
            have hb3 : Below wr.heap.size wr w3 := by subst hw''; exact below_regrown wr dq osq
            clear hw''
            clear y1 ez
            go_wp2_with fail
            go_ret
            exact ⟨ret_int HE.out.symm, HBW.out.trans (hb3.mono HBW.out.size)⟩
          case neg =>
            have gr : decide (r < 0) = false := decide_eq_false hneg
            have HNN := hid (HND.out.trans gr)
            clear hneg
            go_wp2_with fail
            refine wp_region_quiet_below (by kernel_rfl) (by kernel_rfl) ?_
            repeat (go_big_quiet_step (exact HC.out _ _))
            refine wpQuiet_nil ?_
            intro w3 hw'
            obtain ⟨⟨dq, osq⟩, hw''⟩ := hw'
            have hb3 : Below wr.heap.size wr w3 := by subst hw''; exact below_regrown wr dq osq
            clear hw''
            have HB3 := hid (HBK.out.trans (hb3.mono HBK.out.size))
            clear y1 ez hb3
            go_wp2_with fail
            go_roundw
            case rel =>
              refine ⟨k + 1, by omega, by go_num, hid fun i t hi h => ?_, HB3⟩
              rcases Nat.lt_succ_iff_lt_or_eq.1 hi with hi | rfl
              · exact HJK.out i t hi h
              · obtain rfl := Option.some.inj (h.symm.trans HZ.out)
                exact HNN.out
            case measure => simp [intOf]; omega
        case neg =>
          have HFA := hid (show zs.any (noDef fs1) = false from any_n (fun i t h => HJK.out i t (by have := (List.getElem?_eq_some_iff.1 h).1; omega) h))
          have y0 := cell_regrown ((HBW.out.cell (p := ⟨b1, o1, none⟩) XL.out).trans X0.out)
          have q0r := cell_regrown ((HBW.out.cell (p := ⟨b, o + j * 12, none⟩) hbl).trans HQ0.out)
          have q1r := cell_regrown ((HBW.out.cell (p := ⟨b, o + j * 12 + 1, none⟩) hbl).trans HQ1.out)
          have q2r := cell_regrown ((HBW.out.cell (p := ⟨b, o + j * 12 + 2, none⟩) hbl).trans HQ2.out)
          have q3r := cell_regrown ((HBW.out.cell (p := ⟨b, o + j * 12 + 3, none⟩) hbl).trans HQ3.out)
          have q4r := cell_regrown ((HBW.out.cell (p := ⟨b, o + j * 12 + 4, none⟩) hbl).trans HQ4.out)
          have q5r := cell_regrown ((HBW.out.cell (p := ⟨b, o + j * 12 + 5, none⟩) hbl).trans HQ5.out)
          have q6r := cell_regrown ((HBW.out.cell (p := ⟨b, o + j * 12 + 6, none⟩) hbl).trans HQ6.out)
          have q7r := cell_regrown ((HBW.out.cell (p := ⟨b, o + j * 12 + 7, none⟩) hbl).trans HQ7.out)
          have q8r := cell_regrown ((HBW.out.cell (p := ⟨b, o + j * 12 + 8, none⟩) hbl).trans HQ8.out)
          have q9r := cell_regrown ((HBW.out.cell (p := ⟨b, o + j * 12 + 9, none⟩) hbl).trans HQ9.out)
          have q10r := cell_regrown ((HBW.out.cell (p := ⟨b, o + j * 12 + 10, none⟩) hbl).trans HQ10.out)
          have q11r := cell_regrown ((HBW.out.cell (p := ⟨b, o + j * 12 + 11, none⟩) hbl).trans HQ11.out)
          have hkn := fun d os => Calls.regrown_of (spec_Known ds1 ads1 cds1 tk3 tn3 tks3 atks3 ctks3 (grow (redrawn wr d) os) ((HFD.out.below HBW.out).below (below_regrown wr d os)) (((RdS.subDf_t HHT.out).below HBW.out).below (below_regrown wr d os)))
          have hnf := fun d os => Calls.regrown_of (namesFit_all ds1 ads1 cds1 hMD (Tm.bulk (Tm.mk bk3 bu3 bn3 (Ty.mk btk3 btn3 btks3) bns3 bks3) + 1) bk3 bu3 bn3 btk3 btn3 btks3 bns3 bks3 abtks3 cbtks3 abns3 cbns3 abks3 cbks3 b (o + j * 12 + 4) (grow (redrawn wr d) os) (by omega) HMB.out (q4r d os) (q5r d os) (q6r d os) (q7r d os) (q8r d os) (q9r d os) (q10r d os) (q11r d os) ((HFD.out.below HBW.out).below (below_regrown wr d os)) (((RdS.subDf_b HHT.out).below HBW.out).below (below_regrown wr d os)))
          clear q0r q4r q5r q6r q7r q8r q9r q10r q11r
          cases hq : Ty.known ds1 (Ty.mk tk3 tn3 tks3)
          case false =>
            rw [hq] at hkn
            have HC := hid hkn
            have HE := hid (checkN_name HOK.out (any_y HT.out (HUD.out.trans (by rw [hq]; rfl))))
            clear hkn hnf hq
            go_wp2_with fail
            refine wp_region_quiet_below (by kernel_rfl) (by kernel_rfl) ?_
            repeat (go_big_quiet_step (exact HC.out _ _))
            refine wpQuiet_nil ?_
            intro w3 hw'
            obtain ⟨⟨dq, osq⟩, hw''⟩ := hw'
            have hb3 : Below wr.heap.size wr w3 := by subst hw''; exact below_regrown wr dq osq
            clear hw''
            clear y0 y1 q1r q2r q3r
            go_wp2_with fail
            go_ret
            exact ⟨ret_int HE.out.symm, HBW.out.trans (hb3.mono HBW.out.size)⟩
          case true =>
            rw [hq] at hkn
            have HC := hid hkn
            cases hq2 : Tm.anyN (badName ds1) (Tm.mk bk3 bu3 bn3 (Ty.mk btk3 btn3 btks3) bns3 bks3)
            case true =>
              rw [hq2] at hnf
              have HC2 := hid hnf
              have HE := hid (checkN_name HOK.out (any_y HT.out (HUD.out.trans (by rw [hq, hq2, HFA.out]; rfl))))
              clear hkn hnf hq hq2
              go_wp2_with fail
              refine wp_region_quiet_below (by kernel_rfl) (by kernel_rfl) ?_
              repeat (go_big_quiet_step (first | (with_reducible exact HC.out _ _) | (with_reducible exact HC2.out _ _)))
              refine wpQuiet_nil ?_
              intro w3 hw'
              obtain ⟨⟨dq, osq⟩, hw''⟩ := hw'
              have hb3 : Below wr.heap.size wr w3 := by subst hw''; exact below_regrown wr dq osq
              clear hw''
              clear y0 y1 q1r q2r q3r
              go_wp2_with fail
              go_ret
              exact ⟨ret_int HE.out.symm, HBW.out.trans (hb3.mono HBW.out.size)⟩
            case false =>
              rw [hq2] at hnf
              have HC2 := hid hnf
              have HNO := hid (show unknownD ds1 fs1 (Df.mk n3 (Ty.mk tk3 tn3 tks3) (Tm.mk bk3 bu3 bn3 (Ty.mk btk3 btn3 btks3) bns3 bks3)) = false from HUD.out.trans (by rw [hq, hq2, HFA.out]; rfl))
              clear hkn hnf hq hq2
              go_wp2_with fail
              refine wp_region_quiet_below (by kernel_rfl) (by kernel_rfl) ?_
              repeat (go_big_quiet_step (first | (with_reducible exact HC.out _ _) | (with_reducible exact HC2.out _ _)))
              refine wpQuiet_nil ?_
              intro w3 hw'
              obtain ⟨⟨dq, osq⟩, hw''⟩ := hw'
              have hb3 : Below wr.heap.size wr w3 := by subst hw''; exact below_regrown wr dq osq
              clear hw''
              have HB3 := hid (HBW.out.trans (hb3.mono HBW.out.size))
              clear y0 y1 q1r q2r q3r hb3
              go_wp2_with fail
              go_roundw
              case rel =>
                refine ⟨j + 1, by omega, by go_num, hid fun i t hi h => ?_, HB3⟩
                rcases Nat.lt_succ_iff_lt_or_eq.1 hi with hi | rfl
                · exact HJ.out i t hi h
                · obtain rfl := Option.some.inj (h.symm.trans HT.out)
                  exact HNO.out
              case measure => simp [intOf]; omega
theorem spec_CheckNames (ds1 : List Dat) (fs1 : List Df) (ads1 : Option Addr) (cds1 : Nat) (afs1 : Option Addr) (cfs1 : Nat) (w : World) (hM : Pg.bulk (Pg.mk ds1 fs1) ≤ 1048576) (hr : RdS w (Pg.d (Pg.mk ds1 fs1)) [.slice ads1 ds1.length cds1, .slice afs1 fs1.length cfs1]) :
    Calls Tryz.prog 15 #[.agg #[.slice ads1 ds1.length cds1, .slice afs1 fs1.length cfs1]] w fun e w' => e = .returned (.int .i64 (checkN (.mk ds1 fs1))) ∧ Below w.heap.size w w' := by
  have hB := (Below.refl w.heap.size w).alloc (Nat.le_refl _) (.cells #[.slice ads1 ds1.length cds1, .slice afs1 fs1.length cfs1] 32)
  have hx := (Boxes.nil w).alloc #[.slice ads1 ds1.length cds1, .slice afs1 fs1.length cfs1] 32 (0, 0)
  have HC := hid (spec_l03Names ds1 fs1 ads1 cds1 afs1 cfs1 w.heap.size 0 _ hM (hx.at 0 0 rfl rfl) (hx.at 0 1 rfl rfl) (hr.below hB))
  have HB := hid hB
  generalize checkN (.mk ds1 fs1) = r at HC ⊢
  clear hx hr hB hM
  go_enter Tryz.func15, Tryz.ntmps15
  go_wp2_with fail
  refine HC.out.mono ?_
  rintro e w1 ⟨rfl, hb⟩
  have HB1 := hid (HB.out.trans (hb.mono HB.out.size))
  clear hb
  go_wp2_with fail
  go_ret
  exact ⟨rfl, HB1.out⟩
end Go.Proofs.YtgpefnlpbjnjbaaGreat

namespace Go.Proofs.YtgpefnlpbjnjbaaGreat
open Go.ChangeShapes Go.WideShapes Go.ChangeAt Go.RowKit
set_option linter.unusedVariables false

set_option maxRecDepth 100000 in
set_option maxHeartbeats 1000000 in
theorem indexFunc_Df_b (F : FuncId) (eF : ∀ args (w : World), (callFunc F args).run Tryz.prog w = .ok (.enter F args) w) (q0 : Value) (p : Df → Bool) (Good : World → Prop) (hk : ∀ w w', Below w.heap.size w w' → Good w → Good w') (ts : List Df) (a : Option Addr) (c : Nat) (w : World) (hg : Good w) (hr : RdL w (Df.ds ts) (.slice a ts.length c))
    (hc : ∀ (n3 : ByteArray) (tk3 : Int) (tn3 : ByteArray) (tks3 : List Ty) (bk3 : Int) (bu3 : Int) (bn3 : ByteArray) (btk3 : Int) (btn3 : ByteArray) (btks3 : List Ty) (bns3 : List ByteArray) (bks3 : List Tm) (atks3 : Option Addr) (ctks3 : Nat) (abtks3 : Option Addr) (cbtks3 : Nat) (abns3 : Option Addr) (cbns3 : Nat) (abks3 : Option Addr) (cbks3 : Nat) (j : Nat) (W : World), ts[j]? = some (Df.mk n3 (Ty.mk tk3 tn3 tks3) (Tm.mk bk3 bu3 bn3 (Ty.mk btk3 btn3 btks3) bns3 bks3)) → Good W → RdS W (Df.d (Df.mk n3 (Ty.mk tk3 tn3 tks3) (Tm.mk bk3 bu3 bn3 (Ty.mk btk3 btn3 btks3) bns3 bks3))) [.string n3, .int .i64 tk3, .string tn3, .slice atks3 tks3.length ctks3, .int .i64 bk3, .int .i64 bu3, .string bn3, .int .i64 btk3, .string btn3, .slice abtks3 btks3.length cbtks3, .slice abns3 bns3.length cbns3, .slice abks3 bks3.length cbks3] → Calls Tryz.prog F #[q0, .agg #[.string n3, .int .i64 tk3, .string tn3, .slice atks3 tks3.length ctks3, .int .i64 bk3, .int .i64 bu3, .string bn3, .int .i64 btk3, .string btn3, .slice abtks3 btks3.length cbtks3, .slice abns3 bns3.length cbns3, .slice abks3 bks3.length cbks3]] W fun e w' => e = .returned (.bool (p (Df.mk n3 (Ty.mk tk3 tn3 tks3) (Tm.mk bk3 bu3 bn3 (Ty.mk btk3 btn3 btks3) bns3 bks3)))) ∧ Below W.heap.size W w') :
    Calls Tryz.prog 65 #[.slice a ts.length c, .func (.func F) #[q0] #[]] w fun e w' => e = .returned (.int .i64 (fstAt p ts)) ∧ Below w.heap.size w w' := by
  obtain ⟨_, _, e, h2, h3, h4⟩ := hr.eDf
  simp only [Value.slice.injEq, true_and] at e
  obtain ⟨rfl, rfl⟩ := e
  have H4 := hid h4
  have HC0 := hid hc
  have HK := hid hk
  have HG := hid hg
  clear hr h4 hc hk hg
  go_enter Tryz.func65, Tryz.ntmps65
  go_wp2_with fail
  go_loopw [5, 8] (fun _ i wr => ∃ (j : Nat), j ≤ ts.length ∧ i = .int .i64 j ∧ Hid (∀ (i : Nat) t, i < j → ts[i]? = some t → p t = false) ∧ Below w.heap.size w wr) (fun _ i _ => ts.length - (intOf i).toNat)
  case atStart => exact ⟨0, by omega, rfl, fun i t hi => absurd hi (by omega), Below.refl _ _⟩
  case round =>
    obtain ⟨j, hj, rfl, HJ, hb⟩ := hrel
    by_cases hlt : j < ts.length
    case pos =>
      obtain ⟨b, o, rfl, hbl, hall⟩ := H4.out (by omega)
      obtain ⟨t, ht⟩ : ∃ t, ts[j]? = some t := ⟨_, List.getElem?_eq_getElem hlt⟩
      obtain ⟨n3, ⟨tk3, tn3, tks3⟩, ⟨bk3, bu3, bn3, ⟨btk3, btn3, btks3⟩, bns3, bks3⟩⟩ := t
      obtain ⟨atks3, ctks3, abtks3, cbtks3, abns3, cbns3, abks3, cbks3, q_0, q_1, q_2, q_3, q_4, q_5, q_6, q_7, q_8, q_9, q_10, q_11, hrk⟩ := hall j n3 tk3 tn3 tks3 bk3 bu3 bn3 btk3 btn3 btks3 bns3 bks3 ht
      clear hall H4
      have d0 := (hb.cell (p := ⟨b, o + j * 12, none⟩) hbl).trans q_0
      have d1 := (hb.cell (p := ⟨b, o + j * 12 + 1, none⟩) hbl).trans q_1
      have d2 := (hb.cell (p := ⟨b, o + j * 12 + 2, none⟩) hbl).trans q_2
      have d3 := (hb.cell (p := ⟨b, o + j * 12 + 3, none⟩) hbl).trans q_3
      have d4 := (hb.cell (p := ⟨b, o + j * 12 + 4, none⟩) hbl).trans q_4
      have d5 := (hb.cell (p := ⟨b, o + j * 12 + 5, none⟩) hbl).trans q_5
      have d6 := (hb.cell (p := ⟨b, o + j * 12 + 6, none⟩) hbl).trans q_6
      have d7 := (hb.cell (p := ⟨b, o + j * 12 + 7, none⟩) hbl).trans q_7
      have d8 := (hb.cell (p := ⟨b, o + j * 12 + 8, none⟩) hbl).trans q_8
      have d9 := (hb.cell (p := ⟨b, o + j * 12 + 9, none⟩) hbl).trans q_9
      have d10 := (hb.cell (p := ⟨b, o + j * 12 + 10, none⟩) hbl).trans q_10
      have d11 := (hb.cell (p := ⟨b, o + j * 12 + 11, none⟩) hbl).trans q_11
      have hcc := fun hG => HC0.out n3 tk3 tn3 tks3 bk3 bu3 bn3 btk3 btn3 btks3 bns3 bks3 atks3 ctks3 abtks3 cbtks3 abns3 cbns3 abks3 cbks3 j wr ht hG (hrk.below hb)
      have HT := hid ht
      have HGW := hid (HK.out _ _ hb HG.out)
      by_cases hq : p (Df.mk n3 (Ty.mk tk3 tn3 tks3) (Tm.mk bk3 bu3 bn3 (Ty.mk btk3 btn3 btks3) bns3 bks3)) = true
      case pos =>
        rw [hq] at hcc
        have HC := hid hcc
        have HQ := hid hq
        clear ht hrk q_0 q_1 q_2 q_3 q_4 q_5 q_6 q_7 q_8 q_9 q_10 q_11 hcc hq HC0
        go_wp2_with fail
        refine (HC.out HGW.out).mono ?_
        clear HC
        rintro e w1 ⟨rfl, hb1⟩
        have hbw := hb.trans (hb1.mono hb.size)
        clear hb1
        go_wp2_with fail
        go_ret
        exact ⟨ret_int (fstAt_yes p ts j _ HT.out HQ.out HJ.out).symm, hbw⟩
      case neg =>
        replace hq := (Bool.not_eq_true _).mp hq
        rw [hq] at hcc
        have HC := hid hcc
        have HQ := hid hq
        clear ht hrk q_0 q_1 q_2 q_3 q_4 q_5 q_6 q_7 q_8 q_9 q_10 q_11 hcc hq HC0
        go_wp2_with fail
        refine (HC.out HGW.out).mono ?_
        clear HC
        rintro e w1 ⟨rfl, hb1⟩
        have hbw := hb.trans (hb1.mono hb.size)
        clear hb1
        go_wp2_with fail
        go_roundw
        case rel => exact ⟨j + 1, by omega, by go_num, fun i t hi hti => (Nat.lt_succ_iff_lt_or_eq.1 hi).elim (fun hi => HJ.out i t hi hti) (fun he => by subst he; obtain rfl := Option.some.inj (hti.symm.trans HT.out); exact HQ.out), hbw⟩
        case measure => simp [intOf]; omega
    case neg =>
      go_wp2_with fail
      go_ret
      exact ⟨ret_int (fstAt_no p ts fun i t hti => HJ.out i t (by have := (List.getElem?_eq_some_iff.1 hti).1; omega) hti).symm, hb⟩
theorem contains_Df_b (F : FuncId) (eF : ∀ args (w : World), (callFunc F args).run Tryz.prog w = .ok (.enter F args) w) (q0 : Value) (p : Df → Bool) (Good : World → Prop) (hk : ∀ w w', Below w.heap.size w w' → Good w → Good w') (ts : List Df) (a : Option Addr) (c : Nat) (w : World) (hg : Good w) (hr : RdL w (Df.ds ts) (.slice a ts.length c))
    (hc : ∀ (n3 : ByteArray) (tk3 : Int) (tn3 : ByteArray) (tks3 : List Ty) (bk3 : Int) (bu3 : Int) (bn3 : ByteArray) (btk3 : Int) (btn3 : ByteArray) (btks3 : List Ty) (bns3 : List ByteArray) (bks3 : List Tm) (atks3 : Option Addr) (ctks3 : Nat) (abtks3 : Option Addr) (cbtks3 : Nat) (abns3 : Option Addr) (cbns3 : Nat) (abks3 : Option Addr) (cbks3 : Nat) (j : Nat) (W : World), ts[j]? = some (Df.mk n3 (Ty.mk tk3 tn3 tks3) (Tm.mk bk3 bu3 bn3 (Ty.mk btk3 btn3 btks3) bns3 bks3)) → Good W → RdS W (Df.d (Df.mk n3 (Ty.mk tk3 tn3 tks3) (Tm.mk bk3 bu3 bn3 (Ty.mk btk3 btn3 btks3) bns3 bks3))) [.string n3, .int .i64 tk3, .string tn3, .slice atks3 tks3.length ctks3, .int .i64 bk3, .int .i64 bu3, .string bn3, .int .i64 btk3, .string btn3, .slice abtks3 btks3.length cbtks3, .slice abns3 bns3.length cbns3, .slice abks3 bks3.length cbks3] → Calls Tryz.prog F #[q0, .agg #[.string n3, .int .i64 tk3, .string tn3, .slice atks3 tks3.length ctks3, .int .i64 bk3, .int .i64 bu3, .string bn3, .int .i64 btk3, .string btn3, .slice abtks3 btks3.length cbtks3, .slice abns3 bns3.length cbns3, .slice abks3 bks3.length cbks3]] W fun e w' => e = .returned (.bool (p (Df.mk n3 (Ty.mk tk3 tn3 tks3) (Tm.mk bk3 bu3 bn3 (Ty.mk btk3 btn3 btks3) bns3 bks3)))) ∧ Below W.heap.size W w') :
    Calls Tryz.prog 33 #[.slice a ts.length c, .func (.func F) #[q0] #[]] w fun e w' => e = .returned (.bool (ts.any p)) ∧ Below w.heap.size w w' := by
  have HC := hid (indexFunc_Df_b F eF q0 p Good hk ts a c w hg hr hc)
  have HR := hid (fstAt_any p ts)
  clear hr hc hk hg eF
  generalize fstAt p ts = r at HC HR
  generalize ts.any p = bb at HR ⊢
  go_enter Tryz.func33, Tryz.ntmps33
  go_wp2_with fail
  refine HC.out.mono ?_
  rintro e w1 ⟨rfl, hb⟩
  go_wp2_with fail
  go_ret
  exact ⟨ret_bool HR.out, hb⟩

end Go.Proofs.YtgpefnlpbjnjbaaGreat

namespace Go.Proofs.YtgpefnlpbjnjbaaGreat
open Go.ChangeShapes Go.WideShapes Go.ChangeAt Go.RowKit Go.BigFrame
open Go.Sort (grow)
set_option linter.unusedVariables false

set_option maxRecDepth 100000 in
theorem impl_caseFits (k3 : Int) (u3 : Int) (n3 : ByteArray) (tk3 : Int) (tn3 : ByteArray) (tks3 : List Ty) (ns3 : List ByteArray) (ks3 : List Tm) (atks3 : Option Addr) (ctks3 : Nat) (ans3 : Option Addr) (cns3 : Nat) (aks3 : Option Addr) (cks3 : Nat) (m3 : ByteArray) (fs3 : List Ty) (afs3 : Option Addr) (cfs3 : Nat) (w : World) :
    Calls Tryz.prog 110 #[.agg #[.int .i64 k3, .int .i64 u3, .string n3, .int .i64 tk3, .string tn3, .slice atks3 tks3.length ctks3, .slice ans3 ns3.length cns3, .slice aks3 ks3.length cks3], .agg #[.string m3, .slice afs3 fs3.length cfs3]] w fun e w' => e = .returned (.bool (caseFits (Tm.mk k3 u3 n3 (Ty.mk tk3 tn3 tks3) ns3 ks3) (Con.mk m3 fs3))) ∧ Below w.heap.size w w' := by
  have hbx := boxes2c w (.cells #[.int .i64 k3, .int .i64 u3, .string n3, .int .i64 tk3, .string tn3, .slice atks3 tks3.length ctks3, .slice ans3 ns3.length cns3, .slice aks3 ks3.length cks3] 63) (.cells #[.string m3, .slice afs3 fs3.length cfs3] 116)
  have HBX := hid hbx.2.2
  have e0 := heap_cell hbx.1 (j := 0) rfl
  have e1 := heap_cell hbx.1 (j := 1) rfl
  have e2 := heap_cell hbx.1 (j := 2) rfl
  have e3 := heap_cell hbx.1 (j := 3) rfl
  have e4 := heap_cell hbx.1 (j := 4) rfl
  have e5 := heap_cell hbx.1 (j := 5) rfl
  have e6 := heap_cell hbx.1 (j := 6) rfl
  have e7 := heap_cell hbx.1 (j := 7) rfl
  have d0 := heap_cell hbx.2.1 (j := 0) rfl
  have d1 := heap_cell hbx.2.1 (j := 1) rfl
  have HF := hid (show caseFits (Tm.mk k3 u3 n3 (Ty.mk tk3 tn3 tks3) ns3 ks3) (Con.mk m3 fs3) = (decide (n3 = m3) && decide (ns3.length = fs3.length)) from rfl)
  clear hbx
  by_cases hnn : n3 = m3
  case neg =>
    have hbn := bytes_ne hnn
    have HE := hid (show caseFits (Tm.mk k3 u3 n3 (Ty.mk tk3 tn3 tks3) ns3 ks3) (Con.mk m3 fs3) = false by rw [HF.out, decide_eq_false hnn, Bool.false_and])
    clear hnn
    go_enter Tryz.func110, Tryz.ntmps110
    go_wp2_with fail
    go_ret
    exact ⟨ret_bool HE.out.symm, HBX.out⟩
  case pos =>
    have hbn := bytes_eq hnn
    have HN := hid hnn
    clear hnn
    by_cases hl : ns3.length = fs3.length
    case neg =>
      have hlb : ((ns3.length : Int) == (fs3.length : Int)) = false := by simp; omega
      have HE := hid (show caseFits (Tm.mk k3 u3 n3 (Ty.mk tk3 tn3 tks3) ns3 ks3) (Con.mk m3 fs3) = false by rw [HF.out, decide_eq_false hl, Bool.and_false])
      clear hl
      go_enter Tryz.func110, Tryz.ntmps110
      go_wp2_with fail
      go_ret
      exact ⟨ret_bool HE.out.symm, HBX.out⟩
    case pos =>
      have hlb : ((ns3.length : Int) == (fs3.length : Int)) = true := by simp; omega
      have HE := hid (show caseFits (Tm.mk k3 u3 n3 (Ty.mk tk3 tn3 tks3) ns3 ks3) (Con.mk m3 fs3) = true by rw [HF.out, decide_eq_true HN.out, decide_eq_true hl, Bool.true_and])
      clear hl
      go_enter Tryz.func110, Tryz.ntmps110
      go_wp2_with fail
      go_ret
      exact ⟨ret_bool HE.out.symm, HBX.out⟩
set_option maxRecDepth 100000 in
set_option maxHeartbeats 2000000 in
theorem impl_EqualCases (ts : List Tm) (us : List Con) (a a' : Option Addr) (cap cap' : Nat) (w : World) (hr : RdL w (Tm.ds ts) (.slice a ts.length cap)) (hr' : RdL w (Con.ds us) (.slice a' us.length cap')) :
    Calls Tryz.prog 109 #[.slice a ts.length cap, .slice a' us.length cap', .func (.func 110) #[] #[]] w
      fun e w' => e = .returned (.bool (casesEq ts us)) ∧ Below w.heap.size w w' := by
  obtain ⟨_, _, e, h2, h3, h4⟩ := hr.eTm
  simp only [Value.slice.injEq, true_and] at e
  obtain ⟨rfl, rfl⟩ := e
  obtain ⟨_, _, e, h2', h3', h4'⟩ := hr'.eCon
  simp only [Value.slice.injEq, true_and] at e
  obtain ⟨rfl, rfl⟩ := e
  have H4 := hid h4
  have H4' := hid h4'
  clear hr h4 hr' h4'
  by_cases hl : ts.length = us.length
  · have hlb : ((ts.length : Int) != (us.length : Int)) = false := by simp [hl]
    have HL := hid hl
    clear hl
    go_enter Tryz.func109, Tryz.ntmps109
    go_wp2_with fail
    go_loopw [7, 8, 9, 17] (fun _ _ _ i wr => ∃ (j : Nat), j ≤ ts.length ∧ i = .int .i64 j ∧ Hid (∀ (i : Nat) t u, i < j → ts[i]? = some t → us[i]? = some u → caseFits t u = true) ∧ Below w.heap.size w wr) (fun _ _ _ i _ => ts.length - (intOf i).toNat)
    case atStart => exact ⟨0, by omega, rfl, fun i t u hi => absurd hi (by omega), Below.refl _ _⟩
    case round =>
      obtain ⟨j, hj, rfl, HJ, hb⟩ := hrel
      by_cases hlt : j < ts.length
      · have x0 := hb.size
        have hlt' : j < us.length := by have := HL.out; omega
        obtain ⟨b, o, rfl, hbl, hall⟩ := H4.out (by omega)
        obtain ⟨b', o', rfl, hbl', hall'⟩ := H4'.out (by omega)
        obtain ⟨t, ht⟩ : ∃ t, ts[j]? = some t := ⟨_, List.getElem?_eq_getElem hlt⟩
        obtain ⟨t', ht'⟩ : ∃ t, us[j]? = some t := ⟨_, List.getElem?_eq_getElem hlt'⟩
        obtain ⟨k3, u3, n3, ⟨tk3, tn3, tks3⟩, ns3, ks3⟩ := t
        obtain ⟨m3, fs3⟩ := t'
        obtain ⟨atks3, ctks3, ans3, cns3, aks3, cks3, q0, q1, q2, q3, q4, q5, q6, q7, -⟩ := hall j k3 u3 n3 tk3 tn3 tks3 ns3 ks3 ht
        obtain ⟨afs3, cfs3, p0, p1, -⟩ := hall' j m3 fs3 ht'
        clear hall H4 hall' H4'
        have dq0 := (hb.cell (p := ⟨b, o + j * 8, none⟩) hbl).trans q0
        have dq1 := (hb.cell (p := ⟨b, o + j * 8 + 1, none⟩) hbl).trans q1
        have dq2 := (hb.cell (p := ⟨b, o + j * 8 + 2, none⟩) hbl).trans q2
        have dq3 := (hb.cell (p := ⟨b, o + j * 8 + 3, none⟩) hbl).trans q3
        have dq4 := (hb.cell (p := ⟨b, o + j * 8 + 4, none⟩) hbl).trans q4
        have dq5 := (hb.cell (p := ⟨b, o + j * 8 + 5, none⟩) hbl).trans q5
        have dq6 := (hb.cell (p := ⟨b, o + j * 8 + 6, none⟩) hbl).trans q6
        have dq7 := (hb.cell (p := ⟨b, o + j * 8 + 7, none⟩) hbl).trans q7
        have dp0 := (hb.cell (p := ⟨b', o' + j * 2, none⟩) hbl').trans p0
        have dp1 := (hb.cell (p := ⟨b', o' + j * 2 + 1, none⟩) hbl').trans p1
        have x1 : b < wr.heap.size := Nat.lt_of_lt_of_le hbl hb.size
        have x2 : b' < wr.heap.size := Nat.lt_of_lt_of_le hbl' hb.size
        have hc := fun (W : World) => impl_caseFits k3 u3 n3 tk3 tn3 tks3 ns3 ks3 atks3 ctks3 ans3 cns3 aks3 cks3 m3 fs3 afs3 cfs3 W
        have HT := hid ht
        have HT' := hid ht'
        clear ht q0 q1 q2 q3 q4 q5 q6 q7 p0 p1 ht'
        cases hq : caseFits (Tm.mk k3 u3 n3 (Ty.mk tk3 tn3 tks3) ns3 ks3) (Con.mk m3 fs3)
        · rw [hq] at hc
          have HC := hid hc
          clear hc
          go_wp2_with fail
          refine (HC.out _).mono ?_
          rintro e w1 ⟨rfl, hb1⟩
          have hbw : Below w.heap.size w w1 := ((hb.alloc hb.size _).alloc (by have := hb.size; simp; omega) _).trans (hb1.mono (by have := hb.size; simp; omega))
          go_wp2_with fail
          go_ret
          exact ⟨ret_bool (casesEq_no ts us j _ _ HT.out HT'.out hq).symm, hbw⟩
        · rw [hq] at hc
          have HC := hid hc
          clear hc
          go_wp2_with fail
          refine (HC.out _).mono ?_
          rintro e w1 ⟨rfl, hb1⟩
          have hbw : Below w.heap.size w w1 := ((hb.alloc hb.size _).alloc (by have := hb.size; simp; omega) _).trans (hb1.mono (by have := hb.size; simp; omega))
          clear hb1
          go_wp2_with fail
          go_roundw
          case rel =>
            refine ⟨j + 1, by omega, by go_num, fun i t u hi h1 h2 => ?_, hbw⟩
            rcases Nat.lt_succ_iff_lt_or_eq.1 hi with hi | rfl
            · exact HJ.out i t u hi h1 h2
            · obtain rfl := Option.some.inj (h1.symm.trans HT.out)
              obtain rfl := Option.some.inj (h2.symm.trans HT'.out)
              exact hq
          case measure => simp [intOf]; omega
      · go_wp2_with fail
        go_ret
        exact ⟨ret_bool (casesEq_yes ts us HL.out (fun i t u h1 h2 => HJ.out i t u (by have := (List.getElem?_eq_some_iff.1 h1).1; omega) h1 h2)).symm, hb⟩
  · have hlb : ((ts.length : Int) != (us.length : Int)) = true := by simp; omega
    rw [casesEq_len ts us hl]
    clear hl
    go_enter Tryz.func109, Tryz.ntmps109
    go_wp2_with fail
    go_ret
    exact ⟨rfl, Below.refl _ _⟩
/-- A list of terms without its first. -/
theorem RdL.dropTm {w : World} {ks : List Tm} {b o c : Nat} (hl : 1 ≤ ks.length) (h : RdL w (Tm.ds ks) (.slice (some ⟨b, o, none⟩) ks.length c)) : RdL w (Tm.ds (ks.drop 1)) (.slice (some ⟨b, o + 8, none⟩) (ks.drop 1).length (c - 1)) := by
  obtain ⟨F, h⟩ := h
  obtain ⟨a, cap, e, h2, h3, h4⟩ := h.list_inv
  rw [Tm.ds_length] at e h2
  simp only [List.cons.injEq, Value.slice.injEq, true_and, and_true] at e
  obtain ⟨rfl, rfl⟩ := e
  match ks, hl with
  | t :: ks, _ =>
    simp only [List.length_cons] at h2
    simp only [List.drop_succ_cons, List.drop_zero]
    by_cases hks : ks = []
    · subst hks
      exact ⟨[], Rd.nil_mk (by omega)⟩
    · rcases h4 with ⟨h, _⟩ | ⟨b', o', xs, F', _, ha, rfl, hb, hx, hr⟩
      · simp [Tm.ds] at h
      · simp only [Option.some.injEq, Addr.mk.injEq, and_true] at ha
        obtain ⟨rfl, rfl⟩ := ha
        rw [Tm.ds] at hr
        obtain ⟨c1, c2, F1, F2, rfl, rfl, g1, g2⟩ := hr.cons_inv
        have hc1 : c1.length = 8 := by rw [g1.length]; exact Tm.d_len t
        have hne : Tm.ds ks ≠ [] := fun e => hks (List.length_eq_zero_iff.1 (by rw [← Tm.ds_length, e]; rfl))
        have hrd := Rd.list_mk (w := w) (b := b) (o := o + 8) (cap := c - 1) hne (by rw [Tm.ds_length]; omega) (by omega) hb (fun j v hj => by
          have := hx (8 + j) v (by rw [List.getElem?_append_right (by omega), hc1]; simpa using hj)
          rw [Nat.add_assoc]; exact this) g2
        rw [Tm.ds_length] at hrd
        exact ⟨_, hrd⟩
set_option maxRecDepth 100000 in
set_option maxHeartbeats 4000000 in
theorem impl_wrongCases (ds1 : List Dat) (fs1 : List Df) (ads1 : Option Addr) (cds1 : Nat) (afs1 : Option Addr) (cfs1 : Nat) (hD : Dat.bulks ds1 ≤ 1048576) (ts : List Tm) (b o c : Nat) (nm : ByteArray) (w : World) (hl : 0 < ts.length) (hnm : ∃ t, ts[0]? = some t ∧ tmNm t = nm) (hcn : 0 ≤ (conOf nm ds1 0).1) (hd : RdL w (Dat.ds ds1) (.slice ads1 ds1.length cds1)) (hr : RdL w (Tm.ds ts) (.slice (some ⟨b, o, none⟩) ts.length c)) :
    Calls Tryz.prog 73 #[.agg #[.slice ads1 ds1.length cds1, .slice afs1 fs1.length cfs1], .slice (some ⟨b, o, none⟩) ts.length c] w fun e w' => e = .returned (.bool (!casesEq ts (consAt ds1 (conIdx ds1 nm)))) ∧ Below w.heap.size w w' := by
  have hB := (Below.refl w.heap.size w).alloc (Nat.le_refl _) (.cells #[.slice ads1 ds1.length cds1, .slice afs1 fs1.length cfs1] 32)
  have hx := heap_alloc_new w (.cells #[.slice ads1 ds1.length cds1, .slice afs1 fs1.length cfs1] 32)
  have HX := hid hx
  have HB := hid hB
  obtain ⟨j, m, cs, q, nc, fsc, hj, hcf, hq, hca, -⟩ := con_at hcn
  have HE0 := hid (show casesEq ts (consAt ds1 (conIdx ds1 nm)) = casesEq ts cs by unfold conIdx; rw [hcf, hca])
  obtain ⟨_, _, e, h2, h3, h4⟩ := hr.eTm
  simp only [Value.slice.injEq, true_and] at e
  obtain ⟨e1, rfl⟩ := e
  obtain ⟨b', o', ha, hbl, hall⟩ := h4 hl
  rw [← e1] at ha
  simp only [Option.some.injEq, Addr.mk.injEq, and_true] at ha
  obtain ⟨rfl, rfl⟩ := ha
  obtain ⟨t, ht, hnt⟩ := hnm
  obtain ⟨k3, u3, n3, ⟨tk3, tn3, tks3⟩, ns3, ks3⟩ := t
  have hnt' : n3 = nm := hnt
  subst hnt'
  obtain ⟨atks3, ctks3, ans3, cns3, aks3, cks3, q0, q1, q2, q3, q4, q5, q6, q7, -⟩ := hall 0 k3 u3 n3 tk3 tn3 tks3 ns3 ks3 ht
  simp only [Nat.zero_mul, Nat.add_zero] at q2
  obtain ⟨_, _, e, h2d, h3d, h4d⟩ := hd.eDat
  simp only [Value.slice.injEq, true_and] at e
  obtain ⟨rfl, rfl⟩ := e
  have hjl : j < ds1.length := (List.getElem?_eq_some_iff.1 hj).1
  obtain ⟨bd, od, rfl, hbd, halld⟩ := h4d (by omega)
  obtain ⟨acs, ccs, p0, p1, hrd⟩ := halld j m cs hj
  have hc := fun d os => Calls.regrown_of (impl_Con ds1 (some ⟨bd, od, none⟩) cds1 n3 (grow (redrawn (w.alloc (.cells #[.slice (some ⟨bd, od, none⟩) ds1.length cds1, .slice afs1 fs1.length cfs1] 32)) d) os) hD ((hd.below hB).below (below_regrown _ d os)))
  rw [hcf, tagOf_yes (by omega)] at hc
  simp only at hc
  have hdl := Dat.bulks_length ds1
  have hjb : (j : Int) ≤ 1048576 := by omega
  have hqb : (q : Int) ≤ 1048576 := by have h1 := (List.getElem?_eq_some_iff.1 hq).1; have h2 := Dat.bulk_get ds1 j _ hj; have h3 := Con.bulks_length cs; simp only [Dat.bulk] at h2; omega
  have HC := hid hc
  have P1 := hid p1
  have HBD := hid hbd
  have HRT := hid hr
  have HRC := hid hrd.fDat.2
  have e2 := cell_regrown ((hB.cell (p := ⟨b, o + 2, none⟩) hbl).trans q2)
  have f0 := cell_regrown (heap_cell hx (j := 0) rfl)
  clear hc hj hcf hca hq ht hnt q0 q1 q2 q3 q4 q5 q6 q7 h2 h3 h4 h2d h3d h4d halld p0 p1 hrd hall hd hr hcn hdl hB hx e1
  go_enter Tryz.func73, Tryz.ntmps73
  go_wp2_with fail
  generalize hw0 : (w.alloc (.cells #[.slice (some ⟨bd, od, none⟩) ds1.length cds1, .slice afs1 fs1.length cfs1] 32)) = w0 at HC HX HB e2 f0 ⊢
  refine wp_region_quiet_below (by kernel_rfl) (by kernel_rfl) ?_
  repeat (go_big_quiet_step (exact HC.out _ _))
  refine wpQuiet_nil ?_
  intro w3 hw'
  obtain ⟨⟨dq, osq⟩, hw''⟩ := hw'
  have hb3 : Below w0.heap.size w0 w3 := by subst hw''; exact below_regrown w0 dq osq
  clear hw''
  have HB3 := hid (HB.out.trans (hb3.mono HB.out.size))
  have HX3 := hid (heap_liftc HX.out hb3)
  have p1 := (HB3.out.cell (p := ⟨bd, od + j * 2 + 1, none⟩) HBD.out).trans P1.out
  have f0' := heap_cell HX3.out (j := 0) rfl
  have HEQ := hid (impl_EqualCases ts cs (some ⟨b, o, none⟩) acs c ccs w3 (HRT.out.below HB3.out) (HRC.out.below HB3.out))
  generalize casesEq ts cs = r at HE0 HEQ
  clear e2 f0 hb3 HC hw0
  go_wp2_with fail
  refine HEQ.out.mono ?_
  rintro e w4 ⟨rfl, hb4⟩
  have HB4 := hid (HB3.out.trans (hb4.mono HB3.out.size))
  clear hb4 p1 f0'
  go_wp2_with fail
  go_ret
  exact ⟨ret_bool (by rw [HE0.out]), HB4.out⟩
set_option maxRecDepth 100000 in
set_option maxHeartbeats 4000000 in
theorem impl_wrongB (ds1 : List Dat) (fs1 : List Df) (ads1 : Option Addr) (cds1 : Nat) (afs1 : Option Addr) (cfs1 : Nat) (hD : Dat.bulks ds1 ≤ 1048576) (k1 : Int) (u1 : Int) (n1 : ByteArray) (tk1 : Int) (tn1 : ByteArray) (tks1 : List Ty) (ns1 : List ByteArray) (ks1 : List Tm) (atks1 : Option Addr) (ctks1 : Nat) (ans1 : Option Addr) (cns1 : Nat) (aks1 : Option Addr) (cks1 : Nat) (w : World) (hM : Tm.bulk (Tm.mk k1 u1 n1 (Ty.mk tk1 tn1 tks1) ns1 ks1) ≤ 1048576) (ho : named1 ds1 (Tm.mk k1 u1 n1 (Ty.mk tk1 tn1 tks1) ns1 ks1)) (hd : RdL w (Dat.ds ds1) (.slice ads1 ds1.length cds1)) (hr : RdS w (Tm.d (Tm.mk k1 u1 n1 (Ty.mk tk1 tn1 tks1) ns1 ks1)) [.int .i64 k1, .int .i64 u1, .string n1, .int .i64 tk1, .string tn1, .slice atks1 tks1.length ctks1, .slice ans1 ns1.length cns1, .slice aks1 ks1.length cks1]) :
    Calls Tryz.prog 37 #[.agg #[.slice ads1 ds1.length cds1, .slice afs1 fs1.length cfs1], .agg #[.int .i64 k1, .int .i64 u1, .string n1, .int .i64 tk1, .string tn1, .slice atks1 tks1.length ctks1, .slice ans1 ns1.length cns1, .slice aks1 ks1.length cks1]] w fun e w' => e = .returned (.bool (wrongB ds1 (Tm.mk k1 u1 n1 (Ty.mk tk1 tn1 tks1) ns1 ks1))) ∧ Below w.heap.size w w' := by
  have hbx := boxes2c w (.cells #[.slice ads1 ds1.length cds1, .slice afs1 fs1.length cfs1] 32) (.cells #[.int .i64 k1, .int .i64 u1, .string n1, .int .i64 tk1, .string tn1, .slice atks1 tks1.length ctks1, .slice ans1 ns1.length cns1, .slice aks1 ks1.length cks1] 63)
  have HX0 := hid hbx.1
  have HX1 := hid hbx.2.1
  have HBX := hid hbx.2.2
  have p0 := heap_cell hbx.1 (j := 0) rfl
  have p1 := heap_cell hbx.1 (j := 1) rfl
  have e0 := heap_cell hbx.2.1 (j := 0) rfl
  have e1 := heap_cell hbx.2.1 (j := 1) rfl
  have e2 := heap_cell hbx.2.1 (j := 2) rfl
  have e3 := heap_cell hbx.2.1 (j := 3) rfl
  have e4 := heap_cell hbx.2.1 (j := 4) rfl
  have e5 := heap_cell hbx.2.1 (j := 5) rfl
  have e6 := heap_cell hbx.2.1 (j := 6) rfl
  have e7 := heap_cell hbx.2.1 (j := 7) rfl
  clear hbx
  have hlk : ks1.length ≤ 1048576 := by have := Tm.bulks_length ks1; simp only [Tm.bulk] at hM; omega
  by_cases hk8 : k1 = 8
  case pos =>
    subst hk8
    obtain ⟨j, m, cs, q, nc, fsc, hj, hcf, hq, -, hfn⟩ := con_at (named1_con ho (.inl rfl))
    have hf := wrongB_con ds1 u1 n1 (Ty.mk tk1 tn1 tks1) ns1 ks1
    rw [hfn] at hf
    have HF := hid hf
    obtain ⟨_, _, e, h2d, h3d, h4d⟩ := hd.eDat
    simp only [Value.slice.injEq, true_and] at e
    obtain ⟨rfl, rfl⟩ := e
    have hjl : j < ds1.length := (List.getElem?_eq_some_iff.1 hj).1
    obtain ⟨bd, od, rfl, hbd, halld⟩ := h4d (by omega)
    obtain ⟨acs, ccs, p0', p1', hrd⟩ := halld j m cs hj
    obtain ⟨_, _, e, h2c, h3c, h4c⟩ := hrd.fDat.2.eCon
    simp only [Value.slice.injEq, true_and] at e
    obtain ⟨rfl, rfl⟩ := e
    have hql : q < cs.length := (List.getElem?_eq_some_iff.1 hq).1
    obtain ⟨bc, oc, rfl, hbc, hallc⟩ := h4c (by omega)
    obtain ⟨afc, cfc, s0, s1, hrc⟩ := hallc q nc fsc hq
    have hcl : cs.length ≤ 1048576 := by have h1 := Dat.bulk_get ds1 j _ hj; have h2 := Con.bulks_length cs; simp only [Dat.bulk] at h1; omega
    have hdl := Dat.bulks_length ds1
    have hjb : (j : Int) ≤ 1048576 := by omega
    have hqb : (q : Int) ≤ 1048576 := by omega
    have hfb : fsc.length ≤ 9223372036854775807 := by obtain ⟨a9, c9, e9, h9, h9', -⟩ := hrc.fCon.2.eTy; omega
    have hc := impl_Con ds1 (some ⟨bd, od, none⟩) cds1 n1 _ hD (hd.below HBX.out)
    rw [hcf, tagOf_yes (by omega)] at hc
    simp only at hc
    have HC := hid hc
    have P1 := hid p1'
    have S1 := hid s1
    have HBD := hid hbd
    have HBC := hid hbc
    clear hc hj hcf hq hfn h2d h3d h4d halld p0' p1' hrd h2c h3c h4c hallc s0 s1 hrc hr hdl hd ho hf
    have HLB := hid (show ∃ r : Bool, ((ks1.length : Int) != (fsc.length : Int)) = r ∧ (!decide (ks1.length = fsc.length)) = r from ⟨_, rfl, by
      by_cases h : ks1.length = fsc.length
      · simp [h]
      · have : ((ks1.length : Int) != (fsc.length : Int)) = true := by simp; omega
        rw [this]; simp [h]⟩)
    obtain ⟨r, hlb, hlb2⟩ := HLB.out
    have HL2 := hid (HF.out.trans hlb2)
    clear HLB hlb2
    go_enter Tryz.func37, Tryz.ntmps37
    go_wp2_with fail
    refine HC.out.mono ?_
    rintro e w1 ⟨rfl, hb⟩
    have HB1 := hid (HBX.out.trans (hb.mono HBX.out.size))
    have HY0 := hid (heap_liftc HX0.out hb)
    have HY1 := hid (heap_liftc HX1.out hb)
    have e7' := cell_regrown (heap_cell HY1.out (j := 7) rfl)
    have p0' := cell_regrown (heap_cell HY0.out (j := 0) rfl)
    have p1' := cell_regrown ((HB1.out.cell (p := ⟨bd, od + j * 2 + 1, none⟩) HBD.out).trans P1.out)
    have s1' := cell_regrown ((HB1.out.cell (p := ⟨bc, oc + q * 2 + 1, none⟩) HBC.out).trans S1.out)
    clear hb p0 p1 e0 e1 e2 e3 e4 e5 e6 e7
    go_wp2_with fail
    refine wp_region_quiet_below (by kernel_rfl) (by kernel_rfl) ?_
    repeat (go_big_quiet_step (fail))
    refine wpQuiet_nil ?_
    intro w3 hw'
    obtain ⟨⟨dq, osq⟩, hw''⟩ := hw'
    have hb3 : Below w1.heap.size w1 w3 := by subst hw''; exact below_regrown w1 dq osq
    clear hw''
    clear e7' p0' p1' s1'
    go_wp2_with fail
    go_ret
    exact ⟨ret_bool HL2.out.symm, HB1.out.trans (hb3.mono HB1.out.size)⟩
  case neg =>
  have g8 : (k1 == 8) = false := by simp [hk8]
  by_cases hk9 : k1 = 9
  case pos =>
    subst hk9
    have HF := hid (wrongB_match ds1 u1 n1 (Ty.mk tk1 tn1 tks1) ns1 ks1)
    obtain ⟨hl2, hcn1⟩ := named1_match ho
    have hrk := hr.fTm.2.2.2.2.2
    obtain ⟨_, _, e, h2, h3, h4⟩ := hrk.eTm
    simp only [Value.slice.injEq, true_and] at e
    obtain ⟨rfl, rfl⟩ := e
    obtain ⟨b, o, rfl, hbl, -⟩ := h4 (by omega)
    have hrd := RdL.dropTm (by omega) hrk
    have hdl : (ks1.drop 1).length = ks1.length - 1 := by rw [List.length_drop]
    have hn0 : ∃ t, (ks1.drop 1)[0]? = some t ∧ tmNm t = name1 ks1 := by
      obtain ⟨x, hx⟩ : ∃ x, ks1[1]? = some x := ⟨_, List.getElem?_eq_getElem (by omega)⟩
      exact ⟨x, by rw [List.getElem?_drop]; exact hx, by unfold name1; rw [hx]⟩
    have HW := hid (fun (W : World) (hW : Below w.heap.size w W) => impl_wrongCases ds1 fs1 ads1 cds1 afs1 cfs1 hD (ks1.drop 1) b (o + 8) (cks1 - 1) (name1 ks1) W (by omega) hn0 hcn1 (hd.below hW) (hrd.below hW))
    have hw := fun d os => Calls.regrown_of (HW.out (grow (redrawn ((w.alloc (.cells #[.slice ads1 ds1.length cds1, .slice afs1 fs1.length cfs1] 32)).alloc (.cells #[.int .i64 9, .int .i64 u1, .string n1, .int .i64 tk1, .string tn1, .slice atks1 tks1.length ctks1, .slice ans1 ns1.length cns1, .slice (some ⟨b, o, none⟩) ks1.length cks1] 63)) d) os) (HBX.out.trans ((below_regrown _ d os).mono HBX.out.size)))
    rw [hdl] at hw
    generalize (!casesEq (ks1.drop 1) (consAt ds1 (conIdx ds1 (name1 ks1)))) = r at HF hw
    have HC := hid hw
    have hl3 : 1 ≤ ks1.length := by omega
    have hcc : ks1.length ≤ cks1 := h2
    have hcb : cks1 ≤ 9223372036854775807 := h3
    have er : ∀ (d : _) os, _ := fun d os => cell_regrown (heap_cell HX1.out (j := 7) rfl) d os
    have pr0 := cell_regrown (heap_cell HX0.out (j := 0) rfl)
    have pr1 := cell_regrown (heap_cell HX0.out (j := 1) rfl)
    clear hw HW hn0 hdl hrd h2 h3 h4 hrk hr hd ho hcn1 hbl
    go_enter Tryz.func37, Tryz.ntmps37
    go_wp2_with fail
    clear p0 p1 e0 e1 e2 e3 e4 e5 e6 e7
    generalize ((w.alloc (.cells #[.slice ads1 ds1.length cds1, .slice afs1 fs1.length cfs1] 32)).alloc (.cells #[.int .i64 9, .int .i64 u1, .string n1, .int .i64 tk1, .string tn1, .slice atks1 tks1.length ctks1, .slice ans1 ns1.length cns1, .slice (some ⟨b, o, none⟩) ks1.length cks1] 63)) = w0 at HC HBX er pr0 pr1 ⊢
    refine wp_region_quiet_below (by kernel_rfl) (by kernel_rfl) ?_
    repeat (go_big_quiet_step (exact HC.out _ _))
    refine wpQuiet_nil ?_
    intro w3 hw'
    obtain ⟨⟨dq, osq⟩, hw''⟩ := hw'
    have hb3 : Below w0.heap.size w0 w3 := by subst hw''; exact below_regrown w0 dq osq
    clear hw''
    clear er pr0 pr1
    go_wp2_with fail
    go_ret
    exact ⟨ret_bool HF.out.symm, HBX.out.trans (hb3.mono HBX.out.size)⟩
  case neg =>
    have g9 : (k1 == 9) = false := by simp [hk9]
    have HF := hid (wrongB_else ds1 hk8 hk9 u1 n1 (Ty.mk tk1 tn1 tks1) ns1 ks1)
    clear hk8 hk9 ho hr hd hM
    go_enter Tryz.func37, Tryz.ntmps37
    go_wp2_with fail
    go_ret
    exact ⟨ret_bool HF.out.symm, HBX.out⟩
theorem named1_kid' (ds : List Dat) (k u : Int) (n : ByteArray) (t : Ty) (ns : List ByteArray) (ks : List Tm) (j : Nat) (x : Tm) (h : named1 ds (.mk k u n t ns ks) ∧ Tm.bulk (.mk k u n t ns ks) ≤ 1048576) (hj : ks[j]? = some x) : named1 ds x ∧ Tm.bulk x ≤ 1048576 :=
  ⟨named1_kid h.1 hj, by have := Tm.bulk_get ks j x hj; have h2 := h.2; simp only [Tm.bulk] at h2; omega⟩
set_option maxRecDepth 100000 in
set_option maxHeartbeats 2000000 in
theorem impl_wrongD (ds1 : List Dat) (fs1 : List Df) (ads1 : Option Addr) (cds1 : Nat) (afs1 : Option Addr) (cfs1 : Nat) (hD : Dat.bulks ds1 ≤ 1048576) (pb : Nat) (n3 : ByteArray) (tk3 : Int) (tn3 : ByteArray) (tks3 : List Ty) (bk3 bu3 : Int) (bn3 : ByteArray) (btk3 : Int) (btn3 : ByteArray) (btks3 : List Ty) (bns3 : List ByteArray) (bks3 : List Tm) (atks3 : Option Addr) (ctks3 : Nat) (abtks3 : Option Addr) (cbtks3 : Nat) (abns3 : Option Addr) (cbns3 : Nat) (abks3 : Option Addr) (cbks3 : Nat) (w : World) (hMb : Tm.bulk (Tm.mk bk3 bu3 bn3 (Ty.mk btk3 btn3 btks3) bns3 bks3) ≤ 1048576) (hnm : named1 ds1 (Tm.mk bk3 bu3 bn3 (Ty.mk btk3 btn3 btks3) bns3 bks3)) (hg : PgG ds1 fs1 ads1 cds1 afs1 cfs1 pb w) (hr : RdS w (Df.d (Df.mk n3 (Ty.mk tk3 tn3 tks3) (Tm.mk bk3 bu3 bn3 (Ty.mk btk3 btn3 btks3) bns3 bks3))) [.string n3, .int .i64 tk3, .string tn3, .slice atks3 tks3.length ctks3, .int .i64 bk3, .int .i64 bu3, .string bn3, .int .i64 btk3, .string btn3, .slice abtks3 btks3.length cbtks3, .slice abns3 bns3.length cbns3, .slice abks3 bks3.length cbks3]) :
    Calls Tryz.prog 35 #[.agg #[.string n3, .int .i64 tk3, .string tn3, .slice atks3 tks3.length ctks3, .int .i64 bk3, .int .i64 bu3, .string bn3, .int .i64 btk3, .string btn3, .slice abtks3 btks3.length cbtks3, .slice abns3 bns3.length cbns3, .slice abks3 bks3.length cbks3], .pointer (some ⟨pb, 0, none⟩)] w fun e w' => e = .returned (.bool (wrongD ds1 (Df.mk n3 (Ty.mk tk3 tn3 tks3) (Tm.mk bk3 bu3 bn3 (Ty.mk btk3 btn3 btks3) bns3 bks3)))) ∧ Below w.heap.size w w' := by
  have hB := (Below.refl w.heap.size w).alloc (Nat.le_refl _) (.cells #[.string n3, .int .i64 tk3, .string tn3, .slice atks3 tks3.length ctks3, .int .i64 bk3, .int .i64 bu3, .string bn3, .int .i64 btk3, .string btn3, .slice abtks3 btks3.length cbtks3, .slice abns3 bns3.length cbns3, .slice abks3 bks3.length cbks3] 65)
  have hx := heap_alloc_new w (.cells #[.string n3, .int .i64 tk3, .string tn3, .slice atks3 tks3.length ctks3, .int .i64 bk3, .int .i64 bu3, .string bn3, .int .i64 btk3, .string btn3, .slice abtks3 btks3.length cbtks3, .slice abns3 bns3.length cbns3, .slice abks3 bks3.length cbks3] 65)
  have hg2 := hg.below hB
  have z0 := hg2.1
  have z1 := hg2.2.1
  have hco := anyTb_all 37 Tryz.call37 (.agg #[.slice ads1 ds1.length cds1, .slice afs1 fs1.length cfs1]) (wrongB ds1) (fun t => named1 ds1 t ∧ Tm.bulk t ≤ 1048576) (fun W => RdL W (Dat.ds ds1) (.slice ads1 ds1.length cds1)) (named1_kid' ds1) (fun x y hab h => h.below hab) (Tm.bulk (Tm.mk bk3 bu3 bn3 (Ty.mk btk3 btn3 btks3) bns3 bks3) + 1) (fun k1 u1 n1 tk1 tn1 tks1 ns1 ks1 atks1 ctks1 ans1 cns1 aks1 cks1 W _ ho hG hR => impl_wrongB ds1 fs1 ads1 cds1 afs1 cfs1 hD k1 u1 n1 tk1 tn1 tks1 ns1 ks1 atks1 ctks1 ans1 cns1 aks1 cks1 W ho.2 ho.1 hG hR) (Tm.bulk (Tm.mk bk3 bu3 bn3 (Ty.mk btk3 btn3 btks3) bns3 bks3) + 1) (Nat.le_refl _) bk3 bu3 bn3 btk3 btn3 btks3 bns3 bks3 abtks3 cbtks3 abns3 cbns3 abks3 cbks3 _ (by omega) ⟨hnm, hMb⟩ hg2.2.2.1 ((RdS.subDf_b hr).below hB)
  have HF := hid (show wrongD ds1 (Df.mk n3 (Ty.mk tk3 tn3 tks3) (Tm.mk bk3 bu3 bn3 (Ty.mk btk3 btn3 btks3) bns3 bks3)) = Tm.anyN (wrongB ds1) (Tm.mk bk3 bu3 bn3 (Ty.mk btk3 btn3 btks3) bns3 bks3) from rfl)
  generalize Tm.anyN (wrongB ds1) (Tm.mk bk3 bu3 bn3 (Ty.mk btk3 btn3 btks3) bns3 bks3) = r at hco HF
  have HC := hid hco
  have HB := hid hB
  have d0 := heap_cell hx (j := 0) rfl
  have d1 := heap_cell hx (j := 1) rfl
  have d2 := heap_cell hx (j := 2) rfl
  have d3 := heap_cell hx (j := 3) rfl
  have d4 := heap_cell hx (j := 4) rfl
  have d5 := heap_cell hx (j := 5) rfl
  have d6 := heap_cell hx (j := 6) rfl
  have d7 := heap_cell hx (j := 7) rfl
  have d8 := heap_cell hx (j := 8) rfl
  have d9 := heap_cell hx (j := 9) rfl
  have d10 := heap_cell hx (j := 10) rfl
  have d11 := heap_cell hx (j := 11) rfl
  clear hx hg2 hco hB hg hr hnm
  go_enter Tryz.func35, Tryz.ntmps35
  go_wp2_with fail
  refine HC.out.mono ?_
  rintro e w1 ⟨rfl, hb⟩
  have HB1 := hid (HB.out.trans (hb.mono HB.out.size))
  clear hb
  go_wp2_with fail
  go_ret
  exact ⟨ret_bool HF.out.symm, HB1.out⟩
set_option maxRecDepth 100000 in
set_option maxHeartbeats 2000000 in
theorem impl_CheckNames (ds1 : List Dat) (fs1 : List Df) (ads1 : Option Addr) (cds1 : Nat) (afs1 : Option Addr) (cfs1 : Nat) (w : World) (hM : Pg.bulk (Pg.mk ds1 fs1) ≤ 1048576) (hr : RdS w (Pg.d (Pg.mk ds1 fs1)) [.slice ads1 ds1.length cds1, .slice afs1 fs1.length cfs1]) :
    Calls Tryz.prog 16 #[.agg #[.slice ads1 ds1.length cds1, .slice afs1 fs1.length cfs1]] w fun e w' => e = .returned (.int .i64 (checkN (.mk ds1 fs1))) ∧ Below w.heap.size w w' := by
  have hB := (Below.refl w.heap.size w).alloc (Nat.le_refl _) (.cells #[.slice ads1 ds1.length cds1, .slice afs1 fs1.length cfs1] 32)
  have hx := heap_alloc_new w (.cells #[.slice ads1 ds1.length cds1, .slice afs1 fs1.length cfs1] 32)
  have HX := hid hx
  have HB := hid hB
  have hbp : Pg.bulk (Pg.mk ds1 fs1) = Dat.bulks ds1 + Df.bulks fs1 := rfl
  have hMD : Dat.bulks ds1 ≤ 1048576 := by omega
  have hMF : Df.bulks fs1 ≤ 1048576 := by omega
  have hbd : ∀ (j : Nat) (n3 : ByteArray) (tk3 : Int) (tn3 : ByteArray) (tks3 : List Ty) (bk3 bu3 : Int) (bn3 : ByteArray) (btk3 : Int) (btn3 : ByteArray) (btks3 : List Ty) (bns3 : List ByteArray) (bks3 : List Tm) (atks3 : Option Addr) (ctks3 : Nat) (abtks3 : Option Addr) (cbtks3 : Nat) (abns3 : Option Addr) (cbns3 : Nat) (abks3 : Option Addr) (cbks3 : Nat), fs1[j]? = some (Df.mk n3 (Ty.mk tk3 tn3 tks3) (Tm.mk bk3 bu3 bn3 (Ty.mk btk3 btn3 btks3) bns3 bks3)) → Tm.bulk (Tm.mk bk3 bu3 bn3 (Ty.mk btk3 btn3 btks3) bns3 bks3) ≤ 1048576 := fun j n3 tk3 tn3 tks3 bk3 bu3 bn3 btk3 btn3 btks3 bns3 bks3 atks3 ctks3 abtks3 cbtks3 abns3 cbns3 abks3 cbks3 hj => by have h1 := Df.bulk_get fs1 j _ hj; have h2 : Df.bulk (Df.mk n3 (Ty.mk tk3 tn3 tks3) (Tm.mk bk3 bu3 bn3 (Ty.mk btk3 btn3 btks3) bns3 bks3)) = n3.size + Ty.bulk (Ty.mk tk3 tn3 tks3) + Tm.bulk (Tm.mk bk3 bu3 bn3 (Ty.mk btk3 btn3 btks3) bns3 bks3) := rfl; omega
  have HC := hid (impl_ValidProgram ds1 fs1 ads1 cds1 afs1 cfs1 _ hM (hr.below hB))
  have e0 := heap_cell hx (j := 0) rfl
  have e1 := heap_cell hx (j := 1) rfl
  have HD := hid hr.fPg.1
  have HF := hid hr.fPg.2
  clear hx hB
  by_cases hok : progOk ds1 fs1 = true
  case neg =>
    have hf := (Bool.not_eq_true _).mp hok
    rw [hf] at HC
    have HE := hid (checkN_bad hf)
    clear hf hok hr hM hbp
    go_enter Tryz.func16, Tryz.ntmps16
    go_wp2_with fail
    refine HC.out.mono ?_
    rintro e w1 ⟨rfl, hb⟩
    have HB1 := hid (HB.out.trans (hb.mono HB.out.size))
    clear hb
    go_wp2_with fail
    go_ret
    exact ⟨ret_int HE.out.symm, HB1.out⟩
  case pos =>
  rw [hok] at HC
  have HOK := hid hok
  clear hok hr hM hbp
  go_enter Tryz.func16, Tryz.ntmps16
  go_wp2_with fail
  refine HC.out.mono ?_
  rintro e w1 ⟨rfl, hb⟩
  have HB1 := hid (HB.out.trans (hb.mono HB.out.size))
  have HX1 := hid (heap_liftc HX.out hb)
  have hun := contains_Df_b 34 Tryz.call34 (.agg #[.slice ads1 ds1.length cds1, .slice afs1 fs1.length cfs1]) (unknownD ds1 fs1) (fun W => RdL W (Dat.ds ds1) (.slice ads1 ds1.length cds1) ∧ RdL W (Df.ds fs1) (.slice afs1 fs1.length cfs1)) (fun x y hab h => ⟨h.1.below hab, h.2.below hab⟩) fs1 afs1 cfs1 w1 ⟨HD.out.below HB1.out, HF.out.below HB1.out⟩ (HF.out.below HB1.out) (fun n3 tk3 tn3 tks3 bk3 bu3 bn3 btk3 btn3 btks3 bns3 bks3 atks3 ctks3 abtks3 cbtks3 abns3 cbns3 abks3 cbks3 j W hj hG hR => impl_unknown ds1 fs1 ads1 cds1 afs1 cfs1 hMD n3 tk3 tn3 tks3 bk3 bu3 bn3 btk3 btn3 btks3 bns3 bks3 atks3 ctks3 abtks3 cbtks3 abns3 cbns3 abks3 cbks3 W (hbd j n3 tk3 tn3 tks3 bk3 bu3 bn3 btk3 btn3 btks3 bns3 bks3 atks3 ctks3 abtks3 cbtks3 abns3 cbns3 abks3 cbks3 hj) (prog_def HOK.out hj).1 (prog_def HOK.out hj).2 hG.1 hG.2 hR)
  have f0 := heap_cell HX1.out (j := 0) rfl
  have f1 := heap_cell HX1.out (j := 1) rfl
  clear hb e0 e1
  cases hq : fs1.any (unknownD ds1 fs1)
  case true =>
    rw [hq] at hun
    have HU := hid hun
    have HE := hid (checkN_name HOK.out hq)
    clear hun hq
    go_wp2_with fail
    refine HU.out.mono ?_
    rintro e w2 ⟨rfl, hb⟩
    have HB2 := hid (HB1.out.trans (hb.mono HB1.out.size))
    clear hb
    go_wp2_with fail
    go_ret
    exact ⟨ret_int HE.out.symm, HB2.out⟩
  case false =>
    rw [hq] at hun
    have HU := hid hun
    have HQ := hid hq
    clear hun hq
    go_wp2_with fail
    refine HU.out.mono ?_
    rintro e w2 ⟨rfl, hb⟩
    have HB2 := hid (HB1.out.trans (hb.mono HB1.out.size))
    have HX2 := hid (heap_liftc HX1.out hb)
    have hwr := contains_Df_1 35 Tryz.call35 (.pointer (some ⟨w.heap.size, 0, none⟩)) (wrongD ds1) (PgG ds1 fs1 ads1 cds1 afs1 cfs1 w.heap.size) (fun x y hab h => h.below hab) fs1 afs1 cfs1 w2 ⟨heap_cell HX2.out (j := 0) rfl, heap_cell HX2.out (j := 1) rfl, HD.out.below HB2.out, HF.out.below HB2.out⟩ (HF.out.below HB2.out) (fun n3 tk3 tn3 tks3 bk3 bu3 bn3 btk3 btn3 btks3 bns3 bks3 atks3 ctks3 abtks3 cbtks3 abns3 cbns3 abks3 cbks3 j W hj hG hR => impl_wrongD ds1 fs1 ads1 cds1 afs1 cfs1 hMD w.heap.size n3 tk3 tn3 tks3 bk3 bu3 bn3 btk3 btn3 btks3 bns3 bks3 atks3 ctks3 abtks3 cbtks3 abns3 cbns3 abks3 cbks3 W (hbd j n3 tk3 tn3 tks3 bk3 bu3 bn3 btk3 btn3 btks3 bns3 bks3 atks3 ctks3 abtks3 cbtks3 abns3 cbns3 abks3 cbks3 hj) ⟨(prog_def HOK.out hj).2, by have h := any_g HQ.out hj; rw [unknownD_mk, Bool.or_eq_false_iff, Bool.or_eq_false_iff] at h; exact h.2.2⟩ hG hR)
    have g0 := heap_cell HX2.out (j := 0) rfl
    have g1 := heap_cell HX2.out (j := 1) rfl
    clear hb f0 f1
    cases hq : fs1.any (wrongD ds1)
    case true =>
      rw [hq] at hwr
      have HW := hid hwr
      have HE := hid (checkN_range HOK.out HQ.out hq)
      clear hwr hq
      go_wp2_with fail
      refine HW.out.mono ?_
      rintro e w3 ⟨rfl, hb⟩
      have HB3 := hid (HB2.out.trans (hb.mono HB2.out.size))
      clear hb
      go_wp2_with fail
      go_ret
      exact ⟨ret_int HE.out.symm, HB3.out⟩
    case false =>
      rw [hq] at hwr
      have HW := hid hwr
      have HE := hid (checkN_ok HOK.out HQ.out hq)
      clear hwr hq
      go_wp2_with fail
      refine HW.out.mono ?_
      rintro e w3 ⟨rfl, hb⟩
      have HB3 := hid (HB2.out.trans (hb.mono HB2.out.size))
      clear hb
      go_wp2_with fail
      go_ret
      exact ⟨ret_int HE.out.symm, HB3.out⟩
end Go.Proofs.YtgpefnlpbjnjbaaGreat

namespace Go.Proofs.YtgpefnlpbjnjbaaGreat
open Go.ChangeShapes Go.WideShapes Go.ChangeAt Go.RowKit
open Go.Sort (grow)
open Go.ChangeMaps (open_string)
set_option linter.unusedVariables false

set_option maxHeartbeats 1000000 in
theorem FnExactCheckNames_walk (ds_x : List Dat) (fs_x : List Df) (ads_x : Option Addr) (cds_x : Nat) (afs_x : Option Addr) (cfs_x : Nat) (w : World) (hr_x : RdS w (Pg.d (Pg.mk ds_x fs_x)) [.slice ads_x ds_x.length cds_x, .slice afs_x fs_x.length cfs_x]) :
    Calls Tryz.prog 4 #[.agg #[.slice ads_x ds_x.length cds_x, .slice afs_x fs_x.length cfs_x]] w fun e w' => e = .returned (.bool true) ∧ Below w.heap.size w w' := by
  have hbw0 : Below w.heap.size w (w.alloc (.cells #[.slice ads_x ds_x.length cds_x, .slice afs_x fs_x.length cfs_x] 25)) := ((Below.refl _ _).alloc (by simp) _)
  have HX0 := hid ((Boxes.nil w).alloc #[.slice ads_x ds_x.length cds_x, .slice afs_x fs_x.length cfs_x] 25 (0, 0))
  have hc0 := fun (W : World) (hb : Below w.heap.size w W) => szPg ds_x fs_x ads_x cds_x afs_x cfs_x (1048576) W (hr_x.below hb) (by omega) (by omega)
  by_cases hp0 : ((Pg.bulk (Pg.mk ds_x fs_x) : Nat) : Int) ≤ 1048576
  case neg =>
    rw [purse_no hp0] at hc0
    have HC0 := hid hc0
    have HB0 := hid hbw0
    clear hbw0 hc0 hr_x
    go_enter Tryz.func4, Tryz.ntmps4
    go_wp2_with fail
    refine (HC0.out _ HB0.out).mono ?_
    rintro e w1 ⟨rfl, hb⟩
    have HB1 := hid (HB0.out.trans (hb.mono (by simp)))
    have HX1 := hid (HX0.out.below hb)
    clear hb HC0
    go_wp2_with fail
    go_ret
    exact ⟨rfl, HB1.out⟩
  case pos =>
    rw [purse_ok hp0] at hc0
    have HM_x : Hid (Pg.bulk (Pg.mk ds_x fs_x) ≤ 1048576) := by show _ ≤ _; omega
    have HC0 := hid hc0
    have HB0 := hid hbw0
    have R_x := hid hr_x
    clear hbw0 hc0 hr_x
    go_enter Tryz.func4, Tryz.ntmps4
    go_wp2_with fail
    refine (HC0.out _ HB0.out).mono ?_
    rintro e w1 ⟨rfl, hb⟩
    have HB1 := hid (HB0.out.trans (hb.mono (by simp)))
    have HX1 := hid (HX0.out.below hb)
    clear hb HC0
    have R_x := hid (R_x.out.below HB1.out)
    have g0_0 := HX1.out.at 0 0 rfl rfl
    have g0_1 := HX1.out.at 0 1 rfl rfl
    go_wp2_with fail
    clear g0_0 g0_1
    refine (toPg ds_x fs_x ads_x cds_x afs_x cfs_x _ HM_x.out ?_).mono ?_
    · exact R_x.out
    rintro e v0 ⟨ads_xs, cds_xs, afs_xs, cfs_xs, rfl, ho_xs, hb⟩
    have HB2 := hid (HB1.out.trans (hb.mono HB1.out.size))
    have HX2 := hid (HX1.out.below hb)
    have R_x := hid (R_x.out.below hb)
    have C_xs := hid ho_xs.rd
    clear hb ho_xs
    go_wp2_with fail
    refine (spec_CheckNames _ _ _ _ _ _ _ ?_ ?_).mono ?_
    · exact HM_x.out
    · exact C_xs.out
    rintro e vs ⟨rfl, hb⟩
    have HB3 := hid (HB2.out.trans (hb.mono HB2.out.size))
    have HX3 := hid (HX2.out.below hb)
    have R_x := hid (R_x.out.below hb)
    have C_xs := hid (C_xs.out.below hb)
    clear hb
    have g0_0 := HX3.out.at 0 0 rfl rfl
    have g0_1 := HX3.out.at 0 1 rfl rfl
    go_wp2_with fail
    clear g0_0 g0_1
    refine (toPg ds_x fs_x ads_x cds_x afs_x cfs_x _ HM_x.out ?_).mono ?_
    · exact R_x.out
    rintro e x0 ⟨ads_xx, cds_xx, afs_xx, cfs_xx, rfl, ho_xx, hb⟩
    have HB4 := hid (HB3.out.trans (hb.mono HB3.out.size))
    have HX4 := hid (HX3.out.below hb)
    have R_x := hid (R_x.out.below hb)
    have C_xx := hid ho_xx.rd
    clear hb ho_xx
    have hba : Below x0.heap.size x0 (x0.alloc (.cells #[.slice ads_xx ds_x.length cds_xx, .slice afs_xx fs_x.length cfs_xx] 32)) := (Below.refl _ _).alloc (Nat.le_refl _) _
    have HXa := hid (HX4.out.alloc #[.slice ads_xx ds_x.length cds_xx, .slice afs_xx fs_x.length cfs_xx] 32 (0, 0))
    have HB5 := hid (HB4.out.trans (hba.mono HB4.out.size))
    have HX5 := hid (HX4.out.below hba)
    have R_x := hid (R_x.out.below hba)
    have C_xx := hid (C_xx.out.below hba)
    clear hba
    have HX5 := HXa
    have g0_0 := HX5.out.at 0 0 rfl rfl
    have g0_1 := HX5.out.at 0 1 rfl rfl
    go_wp2_with fail
    clear g0_0 g0_1
    refine (impl_CheckNames _ _ _ _ _ _ _ ?_ ?_).mono ?_
    · exact HM_x.out
    · exact C_xx.out
    rintro e vi ⟨rfl, hb⟩
    have HB6 := hid (HB5.out.trans (hb.mono HB5.out.size))
    have HX6 := hid (HX5.out.below hb)
    have R_x := hid (R_x.out.below hb)
    have C_xx := hid (C_xx.out.below hb)
    clear hb
    go_wp2_with fail
    have g0_0 := HX6.out.at 0 0 rfl rfl
    have g0_1 := HX6.out.at 0 1 rfl rfl
    have g1_0 := HX6.out.at 1 0 rfl rfl
    have g1_1 := HX6.out.at 1 1 rfl rfl
    have hkeep : ∀ V V' : World, Below V.heap.size V V' → (Below vi.heap.size vi V ∧ V.cell? ⟨x0.heap.size, 0, none⟩ = some (.slice ads_xx ds_x.length cds_xx) ∧ V.cell? ⟨x0.heap.size, 1, none⟩ = some (.slice afs_xx fs_x.length cfs_xx) ∧ V.cell? ⟨w.heap.size, 0, none⟩ = some (.slice ads_x ds_x.length cds_x) ∧ V.cell? ⟨w.heap.size, 1, none⟩ = some (.slice afs_x fs_x.length cfs_x)) → (Below vi.heap.size vi V' ∧ V'.cell? ⟨x0.heap.size, 0, none⟩ = some (.slice ads_xx ds_x.length cds_xx) ∧ V'.cell? ⟨x0.heap.size, 1, none⟩ = some (.slice afs_xx fs_x.length cfs_xx) ∧ V'.cell? ⟨w.heap.size, 0, none⟩ = some (.slice ads_x ds_x.length cds_x) ∧ V'.cell? ⟨w.heap.size, 1, none⟩ = some (.slice afs_x fs_x.length cfs_x)) := fun V V' hb ⟨h, _⟩ =>
      have hb' := h.trans (hb.mono h.size)
      ⟨hb', (hb'.cell (p := ⟨_, 0, none⟩) (World.block_lt_of_cell? _ _ g0_0)).trans g0_0, (hb'.cell (p := ⟨_, 1, none⟩) (World.block_lt_of_cell? _ _ g0_1)).trans g0_1, (hb'.cell (p := ⟨_, 0, none⟩) (World.block_lt_of_cell? _ _ g1_0)).trans g1_0, (hb'.cell (p := ⟨_, 1, none⟩) (World.block_lt_of_cell? _ _ g1_1)).trans g1_1⟩
    have KEEP := hid hkeep
    clear hkeep
    have hbd : Below vi.heap.size vi vi.drew := (Below.refl _ _).drew
    go_region_held3 (fun V => Below vi.heap.size vi V ∧ V.cell? ⟨x0.heap.size, 0, none⟩ = some (.slice ads_xx ds_x.length cds_xx) ∧ V.cell? ⟨x0.heap.size, 1, none⟩ = some (.slice afs_xx fs_x.length cfs_xx) ∧ V.cell? ⟨w.heap.size, 0, none⟩ = some (.slice ads_x ds_x.length cds_x) ∧ V.cell? ⟨w.heap.size, 1, none⟩ = some (.slice afs_x fs_x.length cfs_x))
      (first | exact KEEP.out _ _ hbq (by assumption) | go_keep)
      (first
        | (go_at_call 8; (with_reducible refine (toPg ds_x fs_x ads_x cds_x afs_x cfs_x _ HM_x.out ?_).mono ?_); (exact R_x.out.below (‹Below vi.heap.size vi _ ∧ _›).1); rintro e y0a ⟨ads_xe, cds_xe, afs_xe, cfs_xe, rfl, ho_xe, hbq⟩)
        | (go_at_call 11; (with_reducible refine (eqPg _ _ _ _ _ _ _ _ _ _ _ ?_ ?_).mono ?_); (exact C_xx.out.below ((‹Below vi.heap.size vi y0a ∧ _›).1)); (exact ho_xe.rd); rintro e y0b ⟨rfl, hbq⟩))
    obtain ⟨hbr, -⟩ := ‹Below vi.heap.size vi y0b ∧ _›
    clear KEEP hbd g0_0 g0_1 g1_0 g1_1
    have HB7 := hid (HB6.out.trans (hbr.mono HB6.out.size))
    have HX7 := hid (HX6.out.below hbr)
    have R_x := hid (R_x.out.below hbr)
    have C_xx := hid (C_xx.out.below hbr)
    clear hbr
    clear ho_xe
    go_wp2_with fail
    go_ret
    exact ⟨rfl, HB7.out⟩

set_option maxRecDepth 100000 in
theorem FnExactCheckNames_lifted (os : Os) (started : os.Started) (H : Type) (enc : TypeId × Value → H) :
    ReturnsInHanded {} Tryz.checked os 4 .any (Rows.fnExactCheckNamesSpec.pre6 enc Tryz.prog Tryz.f4 Rows.fnExactCheckNamesRow.domain false) (Rows.fnExactCheckNamesSpec.post enc Tryz.prog Tryz.f4 false true false false) := by
  refine law_lifted (C := Tryz.checked) (tb := 4) own started (by kernel_rfl) Tryz.func4 laidOut (by intro t ht; rw [Tryz.params4] at ht; simp at ht; subst ht; exact ⟨by kernel_rfl, of_decide_eq_true (by kernel_rfl)⟩) rfl Tryz.underlying4 rfl ?_
    (ChangeSpec.witness6 (enc := enc) (C := Tryz.checked) false ⟨#[], #[.agg #[.slice none 0 0, .slice none 0 0]], []⟩ 8 (by kernel_rfl) (by kernel_rfl) (by kernel_rfl) (by kernel_rfl)) ?_
  · intro ds hds
    rw [Tryz.params4] at hds
    match ds, hds with
    | [_], _ => exact ⟨rfl, rfl, rfl⟩
  intro W base args ds p hval0 hA0 hlt
  have hval : ∀ (j : Nat) t v, Tryz.f4.params[j]? = some t → args[j]? = some v → Value.okWide Tryz.prog W .any base t v := hval0
  have hA : DataW.TrodAll enc Tryz.prog W 0 (fun _ => true) true Tryz.f4.params.toList args.toList ds p := hA0
  rw [Tryz.params4] at hA hval
  clear hval0 hA0
  obtain ⟨v0, vs0, d0, ds0, p0, q0, hargs0, rfl, rfl, h0, r0⟩ := trodAll_cons hA
  obtain ⟨rfl, rfl, rfl⟩ := trodAll_nil r0
  obtain rfl : args = #[v0] := by cases args; simp_all
  obtain ⟨ds_x, fs_x, ads_x, cds_x, afs_x, cfs_x, rfl, hr_x⟩ := arg_Pg (hval 0 25 v0 rfl rfl) h0
  exact FnExactCheckNames_walk ds_x fs_x ads_x cds_x afs_x cfs_x W hr_x

theorem FnExactCheckNames_holds : Rows.FnExactCheckNamesSaid :=
  OpenClaim.holds_of_wide 4 Tryz.f4 rfl rfl rfl rfl rfl rfl rfl ⟨rfl, rfl, rfl, rfl, rfl⟩ rfl rfl rfl rfl rfl (by kernel_rfl) Tryz.func4 (by kernel_rfl)
    (of_decide_eq_true (by kernel_rfl)) (by unfold Func.isWrapper; first | (rw [if_pos (by decide +kernel)]; kernel_rfl) | (rw [if_neg (by decide +kernel)]; exact ⟨rfl, rfl⟩))
    (fun os started H enc _ => FnExactCheckNames_lifted os started H enc)
end Go.Proofs.YtgpefnlpbjnjbaaGreat
