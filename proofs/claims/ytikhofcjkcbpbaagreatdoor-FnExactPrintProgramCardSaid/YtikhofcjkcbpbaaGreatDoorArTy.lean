/- Type among a law's arguments. No condition. -/
import Derived.Test.YtikhofcjkcbpbaaGreatDoorDTy
import Derived.Test.YtikhofcjkcbpbaaGreatDoorArSc
namespace Go.Proofs.YtikhofcjkcbpbaaGreatDoor
open Go.ChangeShapes Go.WideShapes Go.ChangeAt Go.RowKit
set_option linter.unusedVariables false

set_option maxRecDepth 100000 in
mutual
theorem typed_Ty : ∀ (n : Nat) (d : D), Typed Tryz.prog n 24 d → ∃ t : Ty, d = Ty.d t
  | 0, _, h => by simp [Typed] at h
  | n + 1, d, h => by
    unfold Typed at h
    rw [Tryz.underlying24] at h
    obtain ⟨ds, rfl, h⟩ := h
    match ds, h with
    | [d0, d1, d2], ⟨h0, h1, h2, _⟩ =>
      match n, h0, h1, h2 with
      | n + 1, h0, h1, h2 =>
        unfold Typed at h0
        rw [Tryz.underlying2] at h0
        obtain ⟨x0, rfl⟩ := h0
        unfold Typed at h1
        rw [Tryz.underlying9] at h1
        obtain ⟨x1, rfl⟩ := h1
        obtain ⟨x2, rfl⟩ := typed_Tys (n + 1) d2 h2
        exact ⟨.mk x0 x1 x2, rfl⟩
theorem typed_Tys : ∀ (n : Nat) (d : D), Typed Tryz.prog n 22 d → ∃ ts : List Ty, d = .list (Ty.ds ts)
  | 0, _, h => by simp [Typed] at h
  | n + 1, d, h => by
    unfold Typed at h
    rw [Tryz.underlying22] at h
    obtain ⟨ds, rfl, h⟩ := h
    have key : ∀ ds : List D, (∀ x ∈ ds, Typed Tryz.prog n 24 x) → ∃ ts, ds = Ty.ds ts := by
      intro ds
      induction ds with
      | nil => exact fun _ => ⟨[], rfl⟩
      | cons x xs ih =>
        intro hx
        obtain ⟨t, ht⟩ := typed_Ty n x (hx x (by simp))
        obtain ⟨ts, hts⟩ := ih fun y hy => hx y (by simp [hy])
        exact ⟨t :: ts, by rw [ht, hts]; rfl⟩
    obtain ⟨ts, rfl⟩ := key ds h
    exact ⟨ts, rfl⟩
end

def tidsTy : List TypeId := [24, 2, 9, 22]
theorem tidsTy_ok : tidsTy.all (okTy Tryz.prog tidsTy) = true := by kernel_rfl -- 24
theorem tidsTy_cells : tidsTy.all (fun t => match Tryz.prog.underlying t with | some (.int _) => Tryz.prog.cellsOf t == 1 | some .bool => Tryz.prog.cellsOf t == 1 | some .string => Tryz.prog.cellsOf t == 1 | some (.slice _) => Tryz.prog.cellsOf t == 1 | _ => true) = true := by kernel_rfl -- 24
set_option maxRecDepth 100000 in
/-- Handed in. -/
theorem arg_Ty {H : Type} {enc : TypeId × Value → H} {W : World} {base : Nat} {vv : Value} {d : DataW H} {p : List MemPlace} (hv : Value.okWide Tryz.prog W .any base 24 vv)
    (h : DataW.Trod enc Tryz.prog W 0 (fun _ => true) true 24 vv d p) : ∃ (k : Int) (n : ByteArray) (ks : List Ty) (aks : Option Addr) (cks : Nat), vv = .agg #[.int .i64 k, .string n, .slice aks ks.length cks] ∧ RdS W (Ty.d (Ty.mk k n ks)) [.int .i64 k, .string n, .slice aks ks.length cks] := by
  obtain ⟨cs, rfl, _⟩ := okWide_struct Tryz.underlying24 hv
  obtain ⟨fuel, hf⟩ := h
  obtain ⟨_, d', F, h1, h2⟩ := trod_rd tidsTy_ok tidsTy_cells fuel _ _ _ (by simp [tidsTy]) hf
  obtain ⟨⟨k, n, ks⟩, rfl⟩ := typed_Ty _ _ h2
  obtain ⟨aks, cks, hc, -⟩ := h1.Ty_inv
  rw [hc] at h1
  refine ⟨k, n, ks, aks, cks, ?_, ⟨F, h1⟩⟩
  have : cs = #[.int .i64 k, .string n, .slice aks ks.length cks] := by
    apply Array.toList_inj.1
    simpa [Value.cells] using hc
  rw [this]
def tidsTys : List TypeId := [22, 24, 2, 9]
theorem tidsTys_ok : tidsTys.all (okTy Tryz.prog tidsTys) = true := by kernel_rfl -- 22
theorem tidsTys_cells : tidsTys.all (fun t => match Tryz.prog.underlying t with | some (.int _) => Tryz.prog.cellsOf t == 1 | some .bool => Tryz.prog.cellsOf t == 1 | some .string => Tryz.prog.cellsOf t == 1 | some (.slice _) => Tryz.prog.cellsOf t == 1 | _ => true) = true := by kernel_rfl -- 22
set_option maxRecDepth 100000 in
/-- Handed in. -/
theorem arg_Tys {H : Type} {enc : TypeId × Value → H} {W : World} {base : Nat} {vv : Value} {d : DataW H} {p : List MemPlace} (hv : Value.okWide Tryz.prog W .any base 22 vv)
    (h : DataW.Trod enc Tryz.prog W 0 (fun _ => true) true 22 vv d p) : ∃ (ts : List Ty) (a : Option Addr) (c : Nat), vv = .slice a ts.length c ∧ RdL W (Ty.ds ts) (.slice a ts.length c) := by
  obtain ⟨_, _, _, rfl⟩ := okWide_slice Tryz.underlying22 hv
  obtain ⟨fuel, hf⟩ := h
  obtain ⟨_, d', F, h1, h2⟩ := trod_rd tidsTys_ok tidsTys_cells fuel _ _ _ (by simp [tidsTys]) hf
  obtain ⟨ts, rfl⟩ := typed_Tys _ _ h2
  obtain ⟨a, cap, hc, -⟩ := h1.list_inv
  rw [Ty.ds_length] at hc
  simp only [Value.cells, List.cons.injEq, and_true] at hc
  rw [hc] at h1 ⊢
  exact ⟨ts, a, cap, rfl, F, h1⟩

end Go.Proofs.YtikhofcjkcbpbaaGreatDoor
