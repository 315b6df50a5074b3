/- Constructor among a law's arguments. No condition. -/
import Derived.Test.YtdcifcfkjhpokaaDCon
import Derived.Test.YtdcifcfkjhpokaaArSc
import Derived.Test.YtdcifcfkjhpokaaArTy
namespace Go.Proofs.Ytdcifcfkjhpokaa
open Go.ChangeShapes Go.WideShapes Go.ChangeAt Go.RowKit
set_option linter.unusedVariables false

set_option maxRecDepth 100000 in
theorem typed_Con : ∀ (n : Nat) (d : D), Typed Try.prog n 170 d → ∃ t : Con, d = Con.d t
  | 0, _, h => by simp [Typed] at h
  | n + 1, d, h => by
    unfold Typed at h
    rw [Try.underlying170] at h
    obtain ⟨ds, rfl, h⟩ := h
    match ds, h with
    | [d0, d1], ⟨h0, h1, _⟩ =>
      match n, h0, h1 with
      | n + 1, h0, h1 =>
        unfold Typed at h0
        rw [Try.underlying9] at h0
        obtain ⟨x0, rfl⟩ := h0
        obtain ⟨x1, rfl⟩ := typed_Tys (n + 1) d1 h1
        exact ⟨.mk x0 x1, rfl⟩
set_option maxRecDepth 100000 in
theorem typed_Cons : ∀ (n : Nat) (d : D), Typed Try.prog n 133 d → ∃ ts : List Con, d = .list (Con.ds ts)
  | 0, _, h => by simp [Typed] at h
  | n + 1, d, h => by
    unfold Typed at h
    rw [Try.underlying133] at h
    obtain ⟨ds, rfl, h⟩ := h
    have key : ∀ ds : List D, (∀ x ∈ ds, Typed Try.prog n 170 x) → ∃ ts, ds = Con.ds ts := by
      intro ds
      induction ds with
      | nil => exact fun _ => ⟨[], rfl⟩
      | cons x xs ih =>
        intro hx
        obtain ⟨t, ht⟩ := typed_Con n x (hx x (by simp))
        obtain ⟨ts, hts⟩ := ih fun y hy => hx y (by simp [hy])
        exact ⟨t :: ts, by rw [ht, hts]; rfl⟩
    obtain ⟨ts, rfl⟩ := key ds h
    exact ⟨ts, rfl⟩

def tidsCon : List TypeId := [170, 9, 22, 24, 2]
theorem tidsCon_ok : tidsCon.all (okTy Try.prog tidsCon) = true := by kernel_rfl -- 170
theorem tidsCon_cells : tidsCon.all (fun t => match Try.prog.underlying t with | some (.int _) => Try.prog.cellsOf t == 1 | some .bool => Try.prog.cellsOf t == 1 | some .string => Try.prog.cellsOf t == 1 | some (.slice _) => Try.prog.cellsOf t == 1 | _ => true) = true := by kernel_rfl -- 170
set_option maxRecDepth 100000 in
/-- Handed in. -/
theorem arg_Con {H : Type} {enc : TypeId × Value → H} {W : World} {base : Nat} {vv : Value} {d : DataW H} {p : List MemPlace} (hv : Value.okWide Try.prog W .any base 170 vv)
    (h : DataW.Trod enc Try.prog W 0 (fun _ => true) true 170 vv d p) : ∃ (n : ByteArray) (fs : List Ty) (afs : Option Addr) (cfs : Nat), vv = .agg #[.string n, .slice afs fs.length cfs] ∧ RdS W (Con.d (Con.mk n fs)) [.string n, .slice afs fs.length cfs] := by
  obtain ⟨cs, rfl, _⟩ := okWide_struct Try.underlying170 hv
  obtain ⟨fuel, hf⟩ := h
  obtain ⟨_, d', F, h1, h2⟩ := trod_rd tidsCon_ok tidsCon_cells fuel _ _ _ (by simp [tidsCon]) hf
  obtain ⟨⟨n, fs⟩, rfl⟩ := typed_Con _ _ h2
  obtain ⟨afs, cfs, hc, -⟩ := h1.Con_inv
  rw [hc] at h1
  refine ⟨n, fs, afs, cfs, ?_, ⟨F, h1⟩⟩
  have : cs = #[.string n, .slice afs fs.length cfs] := by
    apply Array.toList_inj.1
    simpa [Value.cells] using hc
  rw [this]
def tidsCons : List TypeId := [133, 170, 9, 22, 24, 2]
theorem tidsCons_ok : tidsCons.all (okTy Try.prog tidsCons) = true := by kernel_rfl -- 133
theorem tidsCons_cells : tidsCons.all (fun t => match Try.prog.underlying t with | some (.int _) => Try.prog.cellsOf t == 1 | some .bool => Try.prog.cellsOf t == 1 | some .string => Try.prog.cellsOf t == 1 | some (.slice _) => Try.prog.cellsOf t == 1 | _ => true) = true := by kernel_rfl -- 133
set_option maxRecDepth 100000 in
/-- Handed in. -/
theorem arg_Cons {H : Type} {enc : TypeId × Value → H} {W : World} {base : Nat} {vv : Value} {d : DataW H} {p : List MemPlace} (hv : Value.okWide Try.prog W .any base 133 vv)
    (h : DataW.Trod enc Try.prog W 0 (fun _ => true) true 133 vv d p) : ∃ (ts : List Con) (a : Option Addr) (c : Nat), vv = .slice a ts.length c ∧ RdL W (Con.ds ts) (.slice a ts.length c) := by
  obtain ⟨_, _, _, rfl⟩ := okWide_slice Try.underlying133 hv
  obtain ⟨fuel, hf⟩ := h
  obtain ⟨_, d', F, h1, h2⟩ := trod_rd tidsCons_ok tidsCons_cells fuel _ _ _ (by simp [tidsCons]) hf
  obtain ⟨ts, rfl⟩ := typed_Cons _ _ h2
  obtain ⟨a, cap, hc, -⟩ := h1.list_inv
  rw [Con.ds_length] at hc
  simp only [Value.cells, List.cons.injEq, and_true] at hc
  rw [hc] at h1 ⊢
  exact ⟨ts, a, cap, rfl, F, h1⟩

end Go.Proofs.Ytdcifcfkjhpokaa
