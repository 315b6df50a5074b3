/- Thunk among a law's arguments. No condition. -/
import Derived.Test.YtgbiefjokohkkaaDTh
import Derived.Test.YtgbiefjokohkkaaArSc
import Derived.Test.YtgbiefjokohkkaaArCl
namespace Go.Proofs.Ytgbiefjokohkkaa
open Go.ChangeShapes Go.WideShapes Go.ChangeAt Go.RowKit
set_option linter.unusedVariables false

set_option maxRecDepth 100000 in
theorem typed_Th : ∀ (n : Nat) (d : D), Typed Try.prog n 131 d → ∃ t : Th, d = Th.d t
  | 0, _, h => by simp [Typed] at h
  | n + 1, d, h => by
    unfold Typed at h
    rw [Try.underlying131] at h
    obtain ⟨ds, rfl, h⟩ := h
    match ds, h with
    | [d0, d1], ⟨h0, h1, _⟩ =>
      match n, h0, h1 with
      | n + 1, h0, h1 =>
        unfold Typed at h0
        rw [Try.underlying4] at h0
        obtain ⟨x0, rfl⟩ := h0
        obtain ⟨x1, rfl⟩ := typed_Cl (n + 1) d1 h1
        exact ⟨.mk x0 x1, rfl⟩
set_option maxRecDepth 100000 in
theorem typed_Ths : ∀ (n : Nat) (d : D), Typed Try.prog n 53 d → ∃ ts : List Th, d = .list (Th.ds ts)
  | 0, _, h => by simp [Typed] at h
  | n + 1, d, h => by
    unfold Typed at h
    rw [Try.underlying53] at h
    obtain ⟨ds, rfl, h⟩ := h
    have key : ∀ ds : List D, (∀ x ∈ ds, Typed Try.prog n 131 x) → ∃ ts, ds = Th.ds ts := by
      intro ds
      induction ds with
      | nil => exact fun _ => ⟨[], rfl⟩
      | cons x xs ih =>
        intro hx
        obtain ⟨t, ht⟩ := typed_Th n x (hx x (by simp))
        obtain ⟨ts, hts⟩ := ih fun y hy => hx y (by simp [hy])
        exact ⟨t :: ts, by rw [ht, hts]; rfl⟩
    obtain ⟨ts, rfl⟩ := key ds h
    exact ⟨ts, rfl⟩

def tidsTh : List TypeId := [131, 4, 51, 25, 2, 22, 23]
theorem tidsTh_ok : tidsTh.all (okTy Try.prog tidsTh) = true := by kernel_rfl -- 131
theorem tidsTh_cells : tidsTh.all (fun t => match Try.prog.underlying t with | some (.int _) => Try.prog.cellsOf t == 1 | some .bool => Try.prog.cellsOf t == 1 | some .string => Try.prog.cellsOf t == 1 | some (.slice _) => Try.prog.cellsOf t == 1 | _ => true) = true := by kernel_rfl -- 131
set_option maxRecDepth 100000 in
/-- Handed in. -/
theorem arg_Th {H : Type} {enc : TypeId × Value → H} {W : World} {base : Nat} {vv : Value} {d : DataW H} {p : List MemPlace} (hv : Value.okWide Try.prog W .any base 131 vv)
    (h : DataW.Trod enc Try.prog W 0 (fun _ => true) true 131 vv d p) : ∃ (dn : Bool) (ctk : Int) (ctv : Int) (ctds : List Int) (ctks : List Co) (ces : List Int) (actds : Option Addr) (cctds : Nat) (actks : Option Addr) (cctks : Nat) (aces : Option Addr) (cces : Nat), vv = .agg #[.bool dn, .int .i64 ctk, .int .i64 ctv, .slice actds ctds.length cctds, .slice actks ctks.length cctks, .slice aces ces.length cces] ∧ RdS W (Th.d (Th.mk dn (Cl.mk (Co.mk ctk ctv ctds ctks) ces))) [.bool dn, .int .i64 ctk, .int .i64 ctv, .slice actds ctds.length cctds, .slice actks ctks.length cctks, .slice aces ces.length cces] := by
  obtain ⟨cs, rfl, _⟩ := okWide_struct Try.underlying131 hv
  obtain ⟨fuel, hf⟩ := h
  obtain ⟨_, d', F, h1, h2⟩ := trod_rd tidsTh_ok tidsTh_cells fuel _ _ _ (by simp [tidsTh]) hf
  obtain ⟨⟨dn, ⟨⟨ctk, ctv, ctds, ctks⟩, ces⟩⟩, rfl⟩ := typed_Th _ _ h2
  obtain ⟨actds, cctds, actks, cctks, aces, cces, hc, -⟩ := h1.Th_inv
  rw [hc] at h1
  refine ⟨dn, ctk, ctv, ctds, ctks, ces, actds, cctds, actks, cctks, aces, cces, ?_, ⟨F, h1⟩⟩
  have : cs = #[.bool dn, .int .i64 ctk, .int .i64 ctv, .slice actds ctds.length cctds, .slice actks ctks.length cctks, .slice aces ces.length cces] := by
    apply Array.toList_inj.1
    simpa [Value.cells] using hc
  rw [this]
def tidsThs : List TypeId := [53, 131, 4, 51, 25, 2, 22, 23]
theorem tidsThs_ok : tidsThs.all (okTy Try.prog tidsThs) = true := by kernel_rfl -- 53
theorem tidsThs_cells : tidsThs.all (fun t => match Try.prog.underlying t with | some (.int _) => Try.prog.cellsOf t == 1 | some .bool => Try.prog.cellsOf t == 1 | some .string => Try.prog.cellsOf t == 1 | some (.slice _) => Try.prog.cellsOf t == 1 | _ => true) = true := by kernel_rfl -- 53
set_option maxRecDepth 100000 in
/-- Handed in. -/
theorem arg_Ths {H : Type} {enc : TypeId × Value → H} {W : World} {base : Nat} {vv : Value} {d : DataW H} {p : List MemPlace} (hv : Value.okWide Try.prog W .any base 53 vv)
    (h : DataW.Trod enc Try.prog W 0 (fun _ => true) true 53 vv d p) : ∃ (ts : List Th) (a : Option Addr) (c : Nat), vv = .slice a ts.length c ∧ RdL W (Th.ds ts) (.slice a ts.length c) := by
  obtain ⟨_, _, _, rfl⟩ := okWide_slice Try.underlying53 hv
  obtain ⟨fuel, hf⟩ := h
  obtain ⟨_, d', F, h1, h2⟩ := trod_rd tidsThs_ok tidsThs_cells fuel _ _ _ (by simp [tidsThs]) hf
  obtain ⟨ts, rfl⟩ := typed_Ths _ _ h2
  obtain ⟨a, cap, hc, -⟩ := h1.list_inv
  rw [Th.ds_length] at hc
  simp only [Value.cells, List.cons.injEq, and_true] at hc
  rw [hc] at h1 ⊢
  exact ⟨ts, a, cap, rfl, F, h1⟩

end Go.Proofs.Ytgbiefjokohkkaa
