/- Data among a law's arguments. No condition. -/
import Derived.Test.YtdcifcfkjhpokaaDDat
import Derived.Test.YtdcifcfkjhpokaaArSc
import Derived.Test.YtdcifcfkjhpokaaArCon
namespace Go.Proofs.Ytdcifcfkjhpokaa
open Go.ChangeShapes Go.WideShapes Go.ChangeAt Go.RowKit
set_option linter.unusedVariables false

set_option maxRecDepth 100000 in
theorem typed_Dat : ∀ (n : Nat) (d : D), Typed Try.prog n 135 d → ∃ t : Dat, d = Dat.d t
  | 0, _, h => by simp [Typed] at h
  | n + 1, d, h => by
    unfold Typed at h
    rw [Try.underlying135] at h
    obtain ⟨ds, rfl, h⟩ := h
    match ds, h with
    | [d0, d1], ⟨h0, h1, _⟩ =>
      match n, h0, h1 with
      | n + 1, h0, h1 =>
        unfold Typed at h0
        rw [Try.underlying9] at h0
        obtain ⟨x0, rfl⟩ := h0
        obtain ⟨x1, rfl⟩ := typed_Cons (n + 1) d1 h1
        exact ⟨.mk x0 x1, rfl⟩
set_option maxRecDepth 100000 in
theorem typed_Dats : ∀ (n : Nat) (d : D), Typed Try.prog n 52 d → ∃ ts : List Dat, d = .list (Dat.ds ts)
  | 0, _, h => by simp [Typed] at h
  | n + 1, d, h => by
    unfold Typed at h
    rw [Try.underlying52] at h
    obtain ⟨ds, rfl, h⟩ := h
    have key : ∀ ds : List D, (∀ x ∈ ds, Typed Try.prog n 135 x) → ∃ ts, ds = Dat.ds ts := by
      intro ds
      induction ds with
      | nil => exact fun _ => ⟨[], rfl⟩
      | cons x xs ih =>
        intro hx
        obtain ⟨t, ht⟩ := typed_Dat n x (hx x (by simp))
        obtain ⟨ts, hts⟩ := ih fun y hy => hx y (by simp [hy])
        exact ⟨t :: ts, by rw [ht, hts]; rfl⟩
    obtain ⟨ts, rfl⟩ := key ds h
    exact ⟨ts, rfl⟩

def tidsDat : List TypeId := [135, 9, 133, 170, 22, 24, 2]
theorem tidsDat_ok : tidsDat.all (okTy Try.prog tidsDat) = true := by kernel_rfl -- 135
theorem tidsDat_cells : tidsDat.all (fun t => match Try.prog.underlying t with | some (.int _) => Try.prog.cellsOf t == 1 | some .bool => Try.prog.cellsOf t == 1 | some .string => Try.prog.cellsOf t == 1 | some (.slice _) => Try.prog.cellsOf t == 1 | _ => true) = true := by kernel_rfl -- 135
set_option maxRecDepth 100000 in
/-- Handed in. -/
theorem arg_Dat {H : Type} {enc : TypeId × Value → H} {W : World} {base : Nat} {vv : Value} {d : DataW H} {p : List MemPlace} (hv : Value.okWide Try.prog W .any base 135 vv)
    (h : DataW.Trod enc Try.prog W 0 (fun _ => true) true 135 vv d p) : ∃ (n : ByteArray) (qs : List Con) (aqs : Option Addr) (cqs : Nat), vv = .agg #[.string n, .slice aqs qs.length cqs] ∧ RdS W (Dat.d (Dat.mk n qs)) [.string n, .slice aqs qs.length cqs] := by
  obtain ⟨cs, rfl, _⟩ := okWide_struct Try.underlying135 hv
  obtain ⟨fuel, hf⟩ := h
  obtain ⟨_, d', F, h1, h2⟩ := trod_rd tidsDat_ok tidsDat_cells fuel _ _ _ (by simp [tidsDat]) hf
  obtain ⟨⟨n, qs⟩, rfl⟩ := typed_Dat _ _ h2
  obtain ⟨aqs, cqs, hc, -⟩ := h1.Dat_inv
  rw [hc] at h1
  refine ⟨n, qs, aqs, cqs, ?_, ⟨F, h1⟩⟩
  have : cs = #[.string n, .slice aqs qs.length cqs] := by
    apply Array.toList_inj.1
    simpa [Value.cells] using hc
  rw [this]
def tidsDats : List TypeId := [52, 135, 9, 133, 170, 22, 24, 2]
theorem tidsDats_ok : tidsDats.all (okTy Try.prog tidsDats) = true := by kernel_rfl -- 52
theorem tidsDats_cells : tidsDats.all (fun t => match Try.prog.underlying t with | some (.int _) => Try.prog.cellsOf t == 1 | some .bool => Try.prog.cellsOf t == 1 | some .string => Try.prog.cellsOf t == 1 | some (.slice _) => Try.prog.cellsOf t == 1 | _ => true) = true := by kernel_rfl -- 52
set_option maxRecDepth 100000 in
/-- Handed in. -/
theorem arg_Dats {H : Type} {enc : TypeId × Value → H} {W : World} {base : Nat} {vv : Value} {d : DataW H} {p : List MemPlace} (hv : Value.okWide Try.prog W .any base 52 vv)
    (h : DataW.Trod enc Try.prog W 0 (fun _ => true) true 52 vv d p) : ∃ (ts : List Dat) (a : Option Addr) (c : Nat), vv = .slice a ts.length c ∧ RdL W (Dat.ds ts) (.slice a ts.length c) := by
  obtain ⟨_, _, _, rfl⟩ := okWide_slice Try.underlying52 hv
  obtain ⟨fuel, hf⟩ := h
  obtain ⟨_, d', F, h1, h2⟩ := trod_rd tidsDats_ok tidsDats_cells fuel _ _ _ (by simp [tidsDats]) hf
  obtain ⟨ts, rfl⟩ := typed_Dats _ _ h2
  obtain ⟨a, cap, hc, -⟩ := h1.list_inv
  rw [Dat.ds_length] at hc
  simp only [Value.cells, List.cons.injEq, and_true] at hc
  rw [hc] at h1 ⊢
  exact ⟨ts, a, cap, rfl, F, h1⟩

end Go.Proofs.Ytdcifcfkjhpokaa
