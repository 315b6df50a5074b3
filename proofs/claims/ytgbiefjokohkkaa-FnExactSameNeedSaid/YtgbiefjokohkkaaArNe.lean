/- Need among a law's arguments. No condition. -/
import Derived.Test.YtgbiefjokohkkaaDNe
import Derived.Test.YtgbiefjokohkkaaArSc
import Derived.Test.YtgbiefjokohkkaaArCl
import Derived.Test.YtgbiefjokohkkaaArFr
import Derived.Test.YtgbiefjokohkkaaArTh
namespace Go.Proofs.Ytgbiefjokohkkaa
open Go.ChangeShapes Go.WideShapes Go.ChangeAt Go.RowKit
set_option linter.unusedVariables false

set_option maxRecDepth 100000 in
theorem typed_Ne : ∀ (n : Nat) (d : D), Typed Try.prog n 55 d → ∃ t : Ne, d = Ne.d t
  | 0, _, h => by simp [Typed] at h
  | n + 1, d, h => by
    unfold Typed at h
    rw [Try.underlying55] at h
    obtain ⟨ds, rfl, h⟩ := h
    match ds, h with
    | [d0, d1, d2], ⟨h0, h1, h2, _⟩ =>
      match n, h0, h1, h2 with
      | n + 1, h0, h1, h2 =>
        obtain ⟨x0, rfl⟩ := typed_Cl (n + 1) d0 h0
        obtain ⟨x1, rfl⟩ := typed_Frs (n + 1) d1 h1
        obtain ⟨x2, rfl⟩ := typed_Ths (n + 1) d2 h2
        exact ⟨.mk x0 x1 x2, rfl⟩
def tidsNe : List TypeId := [55, 51, 25, 2, 22, 23, 52, 128, 53, 131, 4]
theorem tidsNe_ok : tidsNe.all (okTy Try.prog tidsNe) = true := by kernel_rfl -- 55
theorem tidsNe_cells : tidsNe.all (fun t => match Try.prog.underlying t with | some (.int _) => Try.prog.cellsOf t == 1 | some .bool => Try.prog.cellsOf t == 1 | some .string => Try.prog.cellsOf t == 1 | some (.slice _) => Try.prog.cellsOf t == 1 | _ => true) = true := by kernel_rfl -- 55
set_option maxRecDepth 100000 in
/-- Handed in. -/
theorem arg_Ne {H : Type} {enc : TypeId × Value → H} {W : World} {base : Nat} {vv : Value} {d : DataW H} {p : List MemPlace} (hv : Value.okWide Try.prog W .any base 55 vv)
    (h : DataW.Trod enc Try.prog W 0 (fun _ => true) true 55 vv d p) : ∃ (ctk : Int) (ctv : Int) (ctds : List Int) (ctks : List Co) (ces : List Int) (ss : List Fr) (hs : List Th) (actds : Option Addr) (cctds : Nat) (actks : Option Addr) (cctks : Nat) (aces : Option Addr) (cces : Nat) (ass : Option Addr) (css : Nat) (ahs : Option Addr) (chs : Nat), vv = .agg #[.int .i64 ctk, .int .i64 ctv, .slice actds ctds.length cctds, .slice actks ctks.length cctks, .slice aces ces.length cces, .slice ass ss.length css, .slice ahs hs.length chs] ∧ RdS W (Ne.d (Ne.mk (Cl.mk (Co.mk ctk ctv ctds ctks) ces) ss hs)) [.int .i64 ctk, .int .i64 ctv, .slice actds ctds.length cctds, .slice actks ctks.length cctks, .slice aces ces.length cces, .slice ass ss.length css, .slice ahs hs.length chs] := by
  obtain ⟨cs, rfl, _⟩ := okWide_struct Try.underlying55 hv
  obtain ⟨fuel, hf⟩ := h
  obtain ⟨_, d', F, h1, h2⟩ := trod_rd tidsNe_ok tidsNe_cells fuel _ _ _ (by simp [tidsNe]) hf
  obtain ⟨⟨⟨⟨ctk, ctv, ctds, ctks⟩, ces⟩, ss, hs⟩, rfl⟩ := typed_Ne _ _ h2
  obtain ⟨actds, cctds, actks, cctks, aces, cces, ass, css, ahs, chs, hc, -⟩ := h1.Ne_inv
  rw [hc] at h1
  refine ⟨ctk, ctv, ctds, ctks, ces, ss, hs, actds, cctds, actks, cctks, aces, cces, ass, css, ahs, chs, ?_, ⟨F, h1⟩⟩
  have : cs = #[.int .i64 ctk, .int .i64 ctv, .slice actds ctds.length cctds, .slice actks ctks.length cctks, .slice aces ces.length cces, .slice ass ss.length css, .slice ahs hs.length chs] := by
    apply Array.toList_inj.1
    simpa [Value.cells] using hc
  rw [this]
end Go.Proofs.Ytgbiefjokohkkaa
