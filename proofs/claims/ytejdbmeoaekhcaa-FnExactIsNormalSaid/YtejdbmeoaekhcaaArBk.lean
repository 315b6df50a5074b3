/- Book among a law's arguments. No condition. -/
import Derived.Test.YtejdbmeoaekhcaaDBk
import Derived.Test.YtejdbmeoaekhcaaArSc
import Derived.Test.YtejdbmeoaekhcaaArCo
namespace Go.Proofs.Ytejdbmeoaekhcaa
open Go.ChangeShapes Go.WideShapes Go.ChangeAt Go.RowKit
set_option linter.unusedVariables false

set_option maxRecDepth 100000 in
theorem typed_Bk : ∀ (n : Nat) (d : D), Typed Try.prog n 24 d → ∃ t : Bk, d = Bk.d t
  | 0, _, h => by simp [Typed] at h
  | n + 1, d, h => by
    unfold Typed at h
    rw [Try.underlying24] at h
    obtain ⟨ds, rfl, h⟩ := h
    match ds, h with
    | [d0], ⟨h0, _⟩ =>
      match n, h0 with
      | n + 1, h0 =>
        obtain ⟨x0, rfl⟩ := typed_Cos (n + 1) d0 h0
        exact ⟨.mk x0, rfl⟩
def tidsBk : List TypeId := [24, 22, 27, 2, 25]
theorem tidsBk_ok : tidsBk.all (okTy Try.prog tidsBk) = true := by kernel_rfl -- 24
theorem tidsBk_cells : tidsBk.all (fun t => match Try.prog.underlying t with | some (.int _) => Try.prog.cellsOf t == 1 | some .bool => Try.prog.cellsOf t == 1 | some .string => Try.prog.cellsOf t == 1 | some (.slice _) => Try.prog.cellsOf t == 1 | _ => true) = true := by kernel_rfl -- 24
set_option maxRecDepth 100000 in
/-- Handed in. -/
theorem arg_Bk {H : Type} {enc : TypeId × Value → H} {W : World} {base : Nat} {vv : Value} {d : DataW H} {p : List MemPlace} (hv : Value.okWide Try.prog W .any base 24 vv)
    (h : DataW.Trod enc Try.prog W 0 (fun _ => true) true 24 vv d p) : ∃ (fs : List Co) (afs : Option Addr) (cfs : Nat), vv = .agg #[.slice afs fs.length cfs] ∧ RdS W (Bk.d (Bk.mk fs)) [.slice afs fs.length cfs] := by
  obtain ⟨cs, rfl, _⟩ := okWide_struct Try.underlying24 hv
  obtain ⟨fuel, hf⟩ := h
  obtain ⟨_, d', F, h1, h2⟩ := trod_rd tidsBk_ok tidsBk_cells fuel _ _ _ (by simp [tidsBk]) hf
  obtain ⟨⟨fs⟩, rfl⟩ := typed_Bk _ _ h2
  obtain ⟨afs, cfs, hc, -⟩ := h1.Bk_inv
  rw [hc] at h1
  refine ⟨fs, afs, cfs, ?_, ⟨F, h1⟩⟩
  have : cs = #[.slice afs fs.length cfs] := by
    apply Array.toList_inj.1
    simpa [Value.cells] using hc
  rw [this]
end Go.Proofs.Ytejdbmeoaekhcaa
