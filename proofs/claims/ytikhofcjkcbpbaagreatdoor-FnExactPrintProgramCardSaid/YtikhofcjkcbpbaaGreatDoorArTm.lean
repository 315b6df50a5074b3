/- Term among a law's arguments. No condition. -/
import Derived.Test.YtikhofcjkcbpbaaGreatDoorDTm
import Derived.Test.YtikhofcjkcbpbaaGreatDoorArSc
import Derived.Test.YtikhofcjkcbpbaaGreatDoorArTy
namespace Go.Proofs.YtikhofcjkcbpbaaGreatDoor
open Go.ChangeShapes Go.WideShapes Go.ChangeAt Go.RowKit
set_option linter.unusedVariables false

set_option maxRecDepth 100000 in
mutual
theorem typed_Tm : ∀ (n : Nat) (d : D), Typed Tryz.prog n 28 d → ∃ t : Tm, d = Tm.d t
  | 0, _, h => by simp [Typed] at h
  | n + 1, d, h => by
    unfold Typed at h
    rw [Tryz.underlying28] at h
    obtain ⟨ds, rfl, h⟩ := h
    match ds, h with
    | [d0, d1, d2, d3, d4, d5], ⟨h0, h1, h2, h3, h4, h5, _⟩ =>
      match n, h0, h1, h2, h3, h4, h5 with
      | n + 1, h0, h1, h2, h3, h4, h5 =>
        unfold Typed at h0
        rw [Tryz.underlying2] at h0
        obtain ⟨x0, rfl⟩ := h0
        unfold Typed at h1
        rw [Tryz.underlying2] at h1
        obtain ⟨x1, rfl⟩ := h1
        unfold Typed at h2
        rw [Tryz.underlying9] at h2
        obtain ⟨x2, rfl⟩ := h2
        obtain ⟨x3, rfl⟩ := typed_Ty (n + 1) d3 h3
        obtain ⟨x4, rfl⟩ := typed_Srs (n + 1) d4 h4
        obtain ⟨x5, rfl⟩ := typed_Tms (n + 1) d5 h5
        exact ⟨.mk x0 x1 x2 x3 x4 x5, rfl⟩
theorem typed_Tms : ∀ (n : Nat) (d : D), Typed Tryz.prog n 26 d → ∃ ts : List Tm, d = .list (Tm.ds ts)
  | 0, _, h => by simp [Typed] at h
  | n + 1, d, h => by
    unfold Typed at h
    rw [Tryz.underlying26] at h
    obtain ⟨ds, rfl, h⟩ := h
    have key : ∀ ds : List D, (∀ x ∈ ds, Typed Tryz.prog n 28 x) → ∃ ts, ds = Tm.ds ts := by
      intro ds
      induction ds with
      | nil => exact fun _ => ⟨[], rfl⟩
      | cons x xs ih =>
        intro hx
        obtain ⟨t, ht⟩ := typed_Tm n x (hx x (by simp))
        obtain ⟨ts, hts⟩ := ih fun y hy => hx y (by simp [hy])
        exact ⟨t :: ts, by rw [ht, hts]; rfl⟩
    obtain ⟨ts, rfl⟩ := key ds h
    exact ⟨ts, rfl⟩
end

def tidsTm : List TypeId := [28, 2, 9, 24, 22, 25, 26]
theorem tidsTm_ok : tidsTm.all (okTy Tryz.prog tidsTm) = true := by kernel_rfl -- 28
theorem tidsTm_cells : tidsTm.all (fun t => match Tryz.prog.underlying t with | some (.int _) => Tryz.prog.cellsOf t == 1 | some .bool => Tryz.prog.cellsOf t == 1 | some .string => Tryz.prog.cellsOf t == 1 | some (.slice _) => Tryz.prog.cellsOf t == 1 | _ => true) = true := by kernel_rfl -- 28
set_option maxRecDepth 100000 in
/-- Handed in. -/
theorem arg_Tm {H : Type} {enc : TypeId × Value → H} {W : World} {base : Nat} {vv : Value} {d : DataW H} {p : List MemPlace} (hv : Value.okWide Tryz.prog W .any base 28 vv)
    (h : DataW.Trod enc Tryz.prog W 0 (fun _ => true) true 28 vv d p) : ∃ (k : Int) (u : Int) (n : ByteArray) (tk : Int) (tn : ByteArray) (tks : List Ty) (ns : List ByteArray) (ks : List Tm) (atks : Option Addr) (ctks : Nat) (ans : Option Addr) (cns : Nat) (aks : Option Addr) (cks : Nat), vv = .agg #[.int .i64 k, .int .i64 u, .string n, .int .i64 tk, .string tn, .slice atks tks.length ctks, .slice ans ns.length cns, .slice aks ks.length cks] ∧ RdS W (Tm.d (Tm.mk k u n (Ty.mk tk tn tks) ns ks)) [.int .i64 k, .int .i64 u, .string n, .int .i64 tk, .string tn, .slice atks tks.length ctks, .slice ans ns.length cns, .slice aks ks.length cks] := by
  obtain ⟨cs, rfl, _⟩ := okWide_struct Tryz.underlying28 hv
  obtain ⟨fuel, hf⟩ := h
  obtain ⟨_, d', F, h1, h2⟩ := trod_rd tidsTm_ok tidsTm_cells fuel _ _ _ (by simp [tidsTm]) hf
  obtain ⟨⟨k, u, n, ⟨tk, tn, tks⟩, ns, ks⟩, rfl⟩ := typed_Tm _ _ h2
  obtain ⟨atks, ctks, ans, cns, aks, cks, hc, -⟩ := h1.Tm_inv
  rw [hc] at h1
  refine ⟨k, u, n, tk, tn, tks, ns, ks, atks, ctks, ans, cns, aks, cks, ?_, ⟨F, h1⟩⟩
  have : cs = #[.int .i64 k, .int .i64 u, .string n, .int .i64 tk, .string tn, .slice atks tks.length ctks, .slice ans ns.length cns, .slice aks ks.length cks] := by
    apply Array.toList_inj.1
    simpa [Value.cells] using hc
  rw [this]
def tidsTms : List TypeId := [26, 28, 2, 9, 24, 22, 25]
theorem tidsTms_ok : tidsTms.all (okTy Tryz.prog tidsTms) = true := by kernel_rfl -- 26
theorem tidsTms_cells : tidsTms.all (fun t => match Tryz.prog.underlying t with | some (.int _) => Tryz.prog.cellsOf t == 1 | some .bool => Tryz.prog.cellsOf t == 1 | some .string => Tryz.prog.cellsOf t == 1 | some (.slice _) => Tryz.prog.cellsOf t == 1 | _ => true) = true := by kernel_rfl -- 26
set_option maxRecDepth 100000 in
/-- Handed in. -/
theorem arg_Tms {H : Type} {enc : TypeId × Value → H} {W : World} {base : Nat} {vv : Value} {d : DataW H} {p : List MemPlace} (hv : Value.okWide Tryz.prog W .any base 26 vv)
    (h : DataW.Trod enc Tryz.prog W 0 (fun _ => true) true 26 vv d p) : ∃ (ts : List Tm) (a : Option Addr) (c : Nat), vv = .slice a ts.length c ∧ RdL W (Tm.ds ts) (.slice a ts.length c) := by
  obtain ⟨_, _, _, rfl⟩ := okWide_slice Tryz.underlying26 hv
  obtain ⟨fuel, hf⟩ := h
  obtain ⟨_, d', F, h1, h2⟩ := trod_rd tidsTms_ok tidsTms_cells fuel _ _ _ (by simp [tidsTms]) hf
  obtain ⟨ts, rfl⟩ := typed_Tms _ _ h2
  obtain ⟨a, cap, hc, -⟩ := h1.list_inv
  rw [Tm.ds_length] at hc
  simp only [Value.cells, List.cons.injEq, and_true] at hc
  rw [hc] at h1 ⊢
  exact ⟨ts, a, cap, rfl, F, h1⟩

end Go.Proofs.YtikhofcjkcbpbaaGreatDoor
