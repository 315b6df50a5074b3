/- Core among a law's arguments. No condition. -/
import Derived.Test.YtejdbmeoaekhcaaDCo
import Derived.Test.YtejdbmeoaekhcaaArSc
namespace Go.Proofs.Ytejdbmeoaekhcaa
open Go.ChangeShapes Go.WideShapes Go.ChangeAt Go.RowKit
set_option linter.unusedVariables false

set_option maxRecDepth 100000 in
mutual
theorem typed_Co : ∀ (n : Nat) (d : D), Typed Try.prog n 27 d → ∃ t : Co, d = Co.d t
  | 0, _, h => by simp [Typed] at h
  | n + 1, d, h => by
    unfold Typed at h
    rw [Try.underlying27] at h
    obtain ⟨ds, rfl, h⟩ := h
    match ds, h with
    | [d0, d1, d2, d3], ⟨h0, h1, h2, h3, _⟩ =>
      match n, h0, h1, h2, h3 with
      | n + 1, h0, h1, h2, h3 =>
        unfold Typed at h0
        rw [Try.underlying2] at h0
        obtain ⟨x0, rfl⟩ := h0
        unfold Typed at h1
        rw [Try.underlying2] at h1
        obtain ⟨x1, rfl⟩ := h1
        obtain ⟨x2, rfl⟩ := typed_Ins (n + 1) d2 h2
        obtain ⟨x3, rfl⟩ := typed_Cos (n + 1) d3 h3
        exact ⟨.mk x0 x1 x2 x3, rfl⟩
theorem typed_Cos : ∀ (n : Nat) (d : D), Typed Try.prog n 22 d → ∃ ts : List Co, d = .list (Co.ds ts)
  | 0, _, h => by simp [Typed] at h
  | n + 1, d, h => by
    unfold Typed at h
    rw [Try.underlying22] at h
    obtain ⟨ds, rfl, h⟩ := h
    have key : ∀ ds : List D, (∀ x ∈ ds, Typed Try.prog n 27 x) → ∃ ts, ds = Co.ds ts := by
      intro ds
      induction ds with
      | nil => exact fun _ => ⟨[], rfl⟩
      | cons x xs ih =>
        intro hx
        obtain ⟨t, ht⟩ := typed_Co n x (hx x (by simp))
        obtain ⟨ts, hts⟩ := ih fun y hy => hx y (by simp [hy])
        exact ⟨t :: ts, by rw [ht, hts]; rfl⟩
    obtain ⟨ts, rfl⟩ := key ds h
    exact ⟨ts, rfl⟩
end

def tidsCo : List TypeId := [27, 2, 25, 22]
theorem tidsCo_ok : tidsCo.all (okTy Try.prog tidsCo) = true := by kernel_rfl -- 27
theorem tidsCo_cells : tidsCo.all (fun t => match Try.prog.underlying t with | some (.int _) => Try.prog.cellsOf t == 1 | some .bool => Try.prog.cellsOf t == 1 | some .string => Try.prog.cellsOf t == 1 | some (.slice _) => Try.prog.cellsOf t == 1 | _ => true) = true := by kernel_rfl -- 27
set_option maxRecDepth 100000 in
/-- Handed in. -/
theorem arg_Co {H : Type} {enc : TypeId × Value → H} {W : World} {base : Nat} {vv : Value} {d : DataW H} {p : List MemPlace} (hv : Value.okWide Try.prog W .any base 27 vv)
    (h : DataW.Trod enc Try.prog W 0 (fun _ => true) true 27 vv d p) : ∃ (k : Int) (v : Int) (ds : List Int) (ks : List Co) (ads : Option Addr) (cds : Nat) (aks : Option Addr) (cks : Nat), vv = .agg #[.int .i64 k, .int .i64 v, .slice ads ds.length cds, .slice aks ks.length cks] ∧ RdS W (Co.d (Co.mk k v ds ks)) [.int .i64 k, .int .i64 v, .slice ads ds.length cds, .slice aks ks.length cks] := by
  obtain ⟨cs, rfl, _⟩ := okWide_struct Try.underlying27 hv
  obtain ⟨fuel, hf⟩ := h
  obtain ⟨_, d', F, h1, h2⟩ := trod_rd tidsCo_ok tidsCo_cells fuel _ _ _ (by simp [tidsCo]) hf
  obtain ⟨⟨k, v, ds, ks⟩, rfl⟩ := typed_Co _ _ h2
  obtain ⟨ads, cds, aks, cks, hc, -⟩ := h1.Co_inv
  rw [hc] at h1
  refine ⟨k, v, ds, ks, ads, cds, aks, cks, ?_, ⟨F, h1⟩⟩
  have : cs = #[.int .i64 k, .int .i64 v, .slice ads ds.length cds, .slice aks ks.length cks] := by
    apply Array.toList_inj.1
    simpa [Value.cells] using hc
  rw [this]
def tidsCos : List TypeId := [22, 27, 2, 25]
theorem tidsCos_ok : tidsCos.all (okTy Try.prog tidsCos) = true := by kernel_rfl -- 22
theorem tidsCos_cells : tidsCos.all (fun t => match Try.prog.underlying t with | some (.int _) => Try.prog.cellsOf t == 1 | some .bool => Try.prog.cellsOf t == 1 | some .string => Try.prog.cellsOf t == 1 | some (.slice _) => Try.prog.cellsOf t == 1 | _ => true) = true := by kernel_rfl -- 22
set_option maxRecDepth 100000 in
/-- Handed in. -/
theorem arg_Cos {H : Type} {enc : TypeId × Value → H} {W : World} {base : Nat} {vv : Value} {d : DataW H} {p : List MemPlace} (hv : Value.okWide Try.prog W .any base 22 vv)
    (h : DataW.Trod enc Try.prog W 0 (fun _ => true) true 22 vv d p) : ∃ (ts : List Co) (a : Option Addr) (c : Nat), vv = .slice a ts.length c ∧ RdL W (Co.ds ts) (.slice a ts.length c) := by
  obtain ⟨_, _, _, rfl⟩ := okWide_slice Try.underlying22 hv
  obtain ⟨fuel, hf⟩ := h
  obtain ⟨_, d', F, h1, h2⟩ := trod_rd tidsCos_ok tidsCos_cells fuel _ _ _ (by simp [tidsCos]) hf
  obtain ⟨ts, rfl⟩ := typed_Cos _ _ h2
  obtain ⟨a, cap, hc, -⟩ := h1.list_inv
  rw [Co.ds_length] at hc
  simp only [Value.cells, List.cons.injEq, and_true] at hc
  rw [hc] at h1 ⊢
  exact ⟨ts, a, cap, rfl, F, h1⟩

end Go.Proofs.Ytejdbmeoaekhcaa
