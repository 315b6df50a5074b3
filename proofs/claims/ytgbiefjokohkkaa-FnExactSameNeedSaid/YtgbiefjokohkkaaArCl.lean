/- Closure among a law's arguments. No condition. -/
import Derived.Test.YtgbiefjokohkkaaDCl
import Derived.Test.YtgbiefjokohkkaaArSc
import Derived.Test.YtgbiefjokohkkaaArCo
namespace Go.Proofs.Ytgbiefjokohkkaa
open Go.ChangeShapes Go.WideShapes Go.ChangeAt Go.RowKit
set_option linter.unusedVariables false

set_option maxRecDepth 100000 in
theorem typed_Cl : ∀ (n : Nat) (d : D), Typed Try.prog n 51 d → ∃ t : Cl, d = Cl.d t
  | 0, _, h => by simp [Typed] at h
  | n + 1, d, h => by
    unfold Typed at h
    rw [Try.underlying51] at h
    obtain ⟨ds, rfl, h⟩ := h
    match ds, h with
    | [d0, d1], ⟨h0, h1, _⟩ =>
      match n, h0, h1 with
      | n + 1, h0, h1 =>
        obtain ⟨x0, rfl⟩ := typed_Co (n + 1) d0 h0
        obtain ⟨x1, rfl⟩ := typed_Ins (n + 1) d1 h1
        exact ⟨.mk x0 x1, rfl⟩
def tidsCl : List TypeId := [51, 25, 2, 22, 23]
theorem tidsCl_ok : tidsCl.all (okTy Try.prog tidsCl) = true := by kernel_rfl -- 51
theorem tidsCl_cells : tidsCl.all (fun t => match Try.prog.underlying t with | some (.int _) => Try.prog.cellsOf t == 1 | some .bool => Try.prog.cellsOf t == 1 | some .string => Try.prog.cellsOf t == 1 | some (.slice _) => Try.prog.cellsOf t == 1 | _ => true) = true := by kernel_rfl -- 51
set_option maxRecDepth 100000 in
/-- Handed in. -/
theorem arg_Cl {H : Type} {enc : TypeId × Value → H} {W : World} {base : Nat} {vv : Value} {d : DataW H} {p : List MemPlace} (hv : Value.okWide Try.prog W .any base 51 vv)
    (h : DataW.Trod enc Try.prog W 0 (fun _ => true) true 51 vv d p) : ∃ (tk : Int) (tv : Int) (tds : List Int) (tks : List Co) (es : List Int) (atds : Option Addr) (ctds : Nat) (atks : Option Addr) (ctks : Nat) (aes : Option Addr) (ces : Nat), vv = .agg #[.int .i64 tk, .int .i64 tv, .slice atds tds.length ctds, .slice atks tks.length ctks, .slice aes es.length ces] ∧ RdS W (Cl.d (Cl.mk (Co.mk tk tv tds tks) es)) [.int .i64 tk, .int .i64 tv, .slice atds tds.length ctds, .slice atks tks.length ctks, .slice aes es.length ces] := by
  obtain ⟨cs, rfl, _⟩ := okWide_struct Try.underlying51 hv
  obtain ⟨fuel, hf⟩ := h
  obtain ⟨_, d', F, h1, h2⟩ := trod_rd tidsCl_ok tidsCl_cells fuel _ _ _ (by simp [tidsCl]) hf
  obtain ⟨⟨⟨tk, tv, tds, tks⟩, es⟩, rfl⟩ := typed_Cl _ _ h2
  obtain ⟨atds, ctds, atks, ctks, aes, ces, hc, -⟩ := h1.Cl_inv
  rw [hc] at h1
  refine ⟨tk, tv, tds, tks, es, atds, ctds, atks, ctks, aes, ces, ?_, ⟨F, h1⟩⟩
  have : cs = #[.int .i64 tk, .int .i64 tv, .slice atds tds.length ctds, .slice atks tks.length ctks, .slice aes es.length ces] := by
    apply Array.toList_inj.1
    simpa [Value.cells] using hc
  rw [this]
end Go.Proofs.Ytgbiefjokohkkaa
