/- Frame among a law's arguments. No condition. -/
import Derived.Test.YtgbiefjokohkkaaDFr
import Derived.Test.YtgbiefjokohkkaaArSc
import Derived.Test.YtgbiefjokohkkaaArCl
namespace Go.Proofs.Ytgbiefjokohkkaa
open Go.ChangeShapes Go.WideShapes Go.ChangeAt Go.RowKit
set_option linter.unusedVariables false

set_option maxRecDepth 100000 in
theorem typed_Fr : ∀ (n : Nat) (d : D), Typed Try.prog n 128 d → ∃ t : Fr, d = Fr.d t
  | 0, _, h => by simp [Typed] at h
  | n + 1, d, h => by
    unfold Typed at h
    rw [Try.underlying128] at h
    obtain ⟨ds, rfl, h⟩ := h
    match ds, h with
    | [d0, d1, d2, d3], ⟨h0, h1, h2, h3, _⟩ =>
      match n, h0, h1, h2, h3 with
      | n + 1, h0, h1, h2, h3 =>
        unfold Typed at h0
        rw [Try.underlying2] at h0
        obtain ⟨x0, rfl⟩ := h0
        unfold Typed at h1
        rw [Try.underlying2] at h1
        obtain ⟨x1, rfl⟩ := h1
        obtain ⟨x2, rfl⟩ := typed_Ins (n + 1) d2 h2
        obtain ⟨x3, rfl⟩ := typed_Cl (n + 1) d3 h3
        exact ⟨.mk x0 x1 x2 x3, rfl⟩
set_option maxRecDepth 100000 in
theorem typed_Frs : ∀ (n : Nat) (d : D), Typed Try.prog n 52 d → ∃ ts : List Fr, d = .list (Fr.ds ts)
  | 0, _, h => by simp [Typed] at h
  | n + 1, d, h => by
    unfold Typed at h
    rw [Try.underlying52] at h
    obtain ⟨ds, rfl, h⟩ := h
    have key : ∀ ds : List D, (∀ x ∈ ds, Typed Try.prog n 128 x) → ∃ ts, ds = Fr.ds ts := by
      intro ds
      induction ds with
      | nil => exact fun _ => ⟨[], rfl⟩
      | cons x xs ih =>
        intro hx
        obtain ⟨t, ht⟩ := typed_Fr n x (hx x (by simp))
        obtain ⟨ts, hts⟩ := ih fun y hy => hx y (by simp [hy])
        exact ⟨t :: ts, by rw [ht, hts]; rfl⟩
    obtain ⟨ts, rfl⟩ := key ds h
    exact ⟨ts, rfl⟩

def tidsFr : List TypeId := [128, 2, 22, 51, 25, 23]
theorem tidsFr_ok : tidsFr.all (okTy Try.prog tidsFr) = true := by kernel_rfl -- 128
theorem tidsFr_cells : tidsFr.all (fun t => match Try.prog.underlying t with | some (.int _) => Try.prog.cellsOf t == 1 | some .bool => Try.prog.cellsOf t == 1 | some .string => Try.prog.cellsOf t == 1 | some (.slice _) => Try.prog.cellsOf t == 1 | _ => true) = true := by kernel_rfl -- 128
set_option maxRecDepth 100000 in
/-- Handed in. -/
theorem arg_Fr {H : Type} {enc : TypeId × Value → H} {W : World} {base : Nat} {vv : Value} {d : DataW H} {p : List MemPlace} (hv : Value.okWide Try.prog W .any base 128 vv)
    (h : DataW.Trod enc Try.prog W 0 (fun _ => true) true 128 vv d p) : ∃ (k : Int) (v : Int) (ds : List Int) (ctk : Int) (ctv : Int) (ctds : List Int) (ctks : List Co) (ces : List Int) (ads : Option Addr) (cds : Nat) (actds : Option Addr) (cctds : Nat) (actks : Option Addr) (cctks : Nat) (aces : Option Addr) (cces : Nat), vv = .agg #[.int .i64 k, .int .i64 v, .slice ads ds.length cds, .int .i64 ctk, .int .i64 ctv, .slice actds ctds.length cctds, .slice actks ctks.length cctks, .slice aces ces.length cces] ∧ RdS W (Fr.d (Fr.mk k v ds (Cl.mk (Co.mk ctk ctv ctds ctks) ces))) [.int .i64 k, .int .i64 v, .slice ads ds.length cds, .int .i64 ctk, .int .i64 ctv, .slice actds ctds.length cctds, .slice actks ctks.length cctks, .slice aces ces.length cces] := by
  obtain ⟨cs, rfl, _⟩ := okWide_struct Try.underlying128 hv
  obtain ⟨fuel, hf⟩ := h
  obtain ⟨_, d', F, h1, h2⟩ := trod_rd tidsFr_ok tidsFr_cells fuel _ _ _ (by simp [tidsFr]) hf
  obtain ⟨⟨k, v, ds, ⟨⟨ctk, ctv, ctds, ctks⟩, ces⟩⟩, rfl⟩ := typed_Fr _ _ h2
  obtain ⟨ads, cds, actds, cctds, actks, cctks, aces, cces, hc, -⟩ := h1.Fr_inv
  rw [hc] at h1
  refine ⟨k, v, ds, ctk, ctv, ctds, ctks, ces, ads, cds, actds, cctds, actks, cctks, aces, cces, ?_, ⟨F, h1⟩⟩
  have : cs = #[.int .i64 k, .int .i64 v, .slice ads ds.length cds, .int .i64 ctk, .int .i64 ctv, .slice actds ctds.length cctds, .slice actks ctks.length cctks, .slice aces ces.length cces] := by
    apply Array.toList_inj.1
    simpa [Value.cells] using hc
  rw [this]
def tidsFrs : List TypeId := [52, 128, 2, 22, 51, 25, 23]
theorem tidsFrs_ok : tidsFrs.all (okTy Try.prog tidsFrs) = true := by kernel_rfl -- 52
theorem tidsFrs_cells : tidsFrs.all (fun t => match Try.prog.underlying t with | some (.int _) => Try.prog.cellsOf t == 1 | some .bool => Try.prog.cellsOf t == 1 | some .string => Try.prog.cellsOf t == 1 | some (.slice _) => Try.prog.cellsOf t == 1 | _ => true) = true := by kernel_rfl -- 52
set_option maxRecDepth 100000 in
/-- Handed in. -/
theorem arg_Frs {H : Type} {enc : TypeId × Value → H} {W : World} {base : Nat} {vv : Value} {d : DataW H} {p : List MemPlace} (hv : Value.okWide Try.prog W .any base 52 vv)
    (h : DataW.Trod enc Try.prog W 0 (fun _ => true) true 52 vv d p) : ∃ (ts : List Fr) (a : Option Addr) (c : Nat), vv = .slice a ts.length c ∧ RdL W (Fr.ds ts) (.slice a ts.length c) := by
  obtain ⟨_, _, _, rfl⟩ := okWide_slice Try.underlying52 hv
  obtain ⟨fuel, hf⟩ := h
  obtain ⟨_, d', F, h1, h2⟩ := trod_rd tidsFrs_ok tidsFrs_cells fuel _ _ _ (by simp [tidsFrs]) hf
  obtain ⟨ts, rfl⟩ := typed_Frs _ _ h2
  obtain ⟨a, cap, hc, -⟩ := h1.list_inv
  rw [Fr.ds_length] at hc
  simp only [Value.cells, List.cons.injEq, and_true] at hc
  rw [hc] at h1 ⊢
  exact ⟨ts, a, cap, rfl, F, h1⟩

end Go.Proofs.Ytgbiefjokohkkaa
