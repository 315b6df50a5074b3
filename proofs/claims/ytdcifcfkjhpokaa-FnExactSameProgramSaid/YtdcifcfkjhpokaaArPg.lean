/- Program among a law's arguments. No condition. -/
import Derived.Test.YtdcifcfkjhpokaaDPg
import Derived.Test.YtdcifcfkjhpokaaArSc
import Derived.Test.YtdcifcfkjhpokaaArDat
import Derived.Test.YtdcifcfkjhpokaaArDf
namespace Go.Proofs.Ytdcifcfkjhpokaa
open Go.ChangeShapes Go.WideShapes Go.ChangeAt Go.RowKit
set_option linter.unusedVariables false

set_option maxRecDepth 100000 in
theorem typed_Pg : ∀ (n : Nat) (d : D), Typed Try.prog n 55 d → ∃ t : Pg, d = Pg.d t
  | 0, _, h => by simp [Typed] at h
  | n + 1, d, h => by
    unfold Typed at h
    rw [Try.underlying55] at h
    obtain ⟨ds, rfl, h⟩ := h
    match ds, h with
    | [d0, d1], ⟨h0, h1, _⟩ =>
      match n, h0, h1 with
      | n + 1, h0, h1 =>
        obtain ⟨x0, rfl⟩ := typed_Dats (n + 1) d0 h0
        obtain ⟨x1, rfl⟩ := typed_Dfs (n + 1) d1 h1
        exact ⟨.mk x0 x1, rfl⟩
def tidsPg : List TypeId := [55, 52, 135, 9, 133, 170, 22, 24, 2, 53, 138, 28, 25, 26]
theorem tidsPg_ok : tidsPg.all (okTy Try.prog tidsPg) = true := by kernel_rfl -- 55
theorem tidsPg_cells : tidsPg.all (fun t => match Try.prog.underlying t with | some (.int _) => Try.prog.cellsOf t == 1 | some .bool => Try.prog.cellsOf t == 1 | some .string => Try.prog.cellsOf t == 1 | some (.slice _) => Try.prog.cellsOf t == 1 | _ => true) = true := by kernel_rfl -- 55
set_option maxRecDepth 100000 in
/-- Handed in. -/
theorem arg_Pg {H : Type} {enc : TypeId × Value → H} {W : World} {base : Nat} {vv : Value} {d : DataW H} {p : List MemPlace} (hv : Value.okWide Try.prog W .any base 55 vv)
    (h : DataW.Trod enc Try.prog W 0 (fun _ => true) true 55 vv d p) : ∃ (ds : List Dat) (fs : List Df) (ads : Option Addr) (cds : Nat) (afs : Option Addr) (cfs : Nat), vv = .agg #[.slice ads ds.length cds, .slice afs fs.length cfs] ∧ RdS W (Pg.d (Pg.mk ds fs)) [.slice ads ds.length cds, .slice afs fs.length cfs] := by
  obtain ⟨cs, rfl, _⟩ := okWide_struct Try.underlying55 hv
  obtain ⟨fuel, hf⟩ := h
  obtain ⟨_, d', F, h1, h2⟩ := trod_rd tidsPg_ok tidsPg_cells fuel _ _ _ (by simp [tidsPg]) hf
  obtain ⟨⟨ds, fs⟩, rfl⟩ := typed_Pg _ _ h2
  obtain ⟨ads, cds, afs, cfs, hc, -⟩ := h1.Pg_inv
  rw [hc] at h1
  refine ⟨ds, fs, ads, cds, afs, cfs, ?_, ⟨F, h1⟩⟩
  have : cs = #[.slice ads ds.length cds, .slice afs fs.length cfs] := by
    apply Array.toList_inj.1
    simpa [Value.cells] using hc
  rw [this]
end Go.Proofs.Ytdcifcfkjhpokaa
