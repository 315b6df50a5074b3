/- Def among a law's arguments. No condition. -/
import Derived.Test.YtdcifcfkjhpokaaDDf
import Derived.Test.YtdcifcfkjhpokaaArSc
import Derived.Test.YtdcifcfkjhpokaaArTm
import Derived.Test.YtdcifcfkjhpokaaArTy
namespace Go.Proofs.Ytdcifcfkjhpokaa
open Go.ChangeShapes Go.WideShapes Go.ChangeAt Go.RowKit
set_option linter.unusedVariables false

set_option maxRecDepth 100000 in
theorem typed_Df : ∀ (n : Nat) (d : D), Typed Try.prog n 138 d → ∃ t : Df, d = Df.d t
  | 0, _, h => by simp [Typed] at h
  | n + 1, d, h => by
    unfold Typed at h
    rw [Try.underlying138] at h
    obtain ⟨ds, rfl, h⟩ := h
    match ds, h with
    | [d0, d1, d2], ⟨h0, h1, h2, _⟩ =>
      match n, h0, h1, h2 with
      | n + 1, h0, h1, h2 =>
        unfold Typed at h0
        rw [Try.underlying9] at h0
        obtain ⟨x0, rfl⟩ := h0
        obtain ⟨x1, rfl⟩ := typed_Ty (n + 1) d1 h1
        obtain ⟨x2, rfl⟩ := typed_Tm (n + 1) d2 h2
        exact ⟨.mk x0 x1 x2, rfl⟩
set_option maxRecDepth 100000 in
theorem typed_Dfs : ∀ (n : Nat) (d : D), Typed Try.prog n 53 d → ∃ ts : List Df, d = .list (Df.ds ts)
  | 0, _, h => by simp [Typed] at h
  | n + 1, d, h => by
    unfold Typed at h
    rw [Try.underlying53] at h
    obtain ⟨ds, rfl, h⟩ := h
    have key : ∀ ds : List D, (∀ x ∈ ds, Typed Try.prog n 138 x) → ∃ ts, ds = Df.ds ts := by
      intro ds
      induction ds with
      | nil => exact fun _ => ⟨[], rfl⟩
      | cons x xs ih =>
        intro hx
        obtain ⟨t, ht⟩ := typed_Df n x (hx x (by simp))
        obtain ⟨ts, hts⟩ := ih fun y hy => hx y (by simp [hy])
        exact ⟨t :: ts, by rw [ht, hts]; rfl⟩
    obtain ⟨ts, rfl⟩ := key ds h
    exact ⟨ts, rfl⟩

def tidsDf : List TypeId := [138, 9, 24, 2, 22, 28, 25, 26]
theorem tidsDf_ok : tidsDf.all (okTy Try.prog tidsDf) = true := by kernel_rfl -- 138
theorem tidsDf_cells : tidsDf.all (fun t => match Try.prog.underlying t with | some (.int _) => Try.prog.cellsOf t == 1 | some .bool => Try.prog.cellsOf t == 1 | some .string => Try.prog.cellsOf t == 1 | some (.slice _) => Try.prog.cellsOf t == 1 | _ => true) = true := by kernel_rfl -- 138
set_option maxRecDepth 100000 in
/-- Handed in. -/
theorem arg_Df {H : Type} {enc : TypeId × Value → H} {W : World} {base : Nat} {vv : Value} {d : DataW H} {p : List MemPlace} (hv : Value.okWide Try.prog W .any base 138 vv)
    (h : DataW.Trod enc Try.prog W 0 (fun _ => true) true 138 vv d p) : ∃ (n : ByteArray) (tk : Int) (tn : ByteArray) (tks : List Ty) (bk : Int) (bu : Int) (bn : ByteArray) (btk : Int) (btn : ByteArray) (btks : List Ty) (bns : List ByteArray) (bks : List Tm) (atks : Option Addr) (ctks : Nat) (abtks : Option Addr) (cbtks : Nat) (abns : Option Addr) (cbns : Nat) (abks : Option Addr) (cbks : Nat), vv = .agg #[.string n, .int .i64 tk, .string tn, .slice atks tks.length ctks, .int .i64 bk, .int .i64 bu, .string bn, .int .i64 btk, .string btn, .slice abtks btks.length cbtks, .slice abns bns.length cbns, .slice abks bks.length cbks] ∧ RdS W (Df.d (Df.mk n (Ty.mk tk tn tks) (Tm.mk bk bu bn (Ty.mk btk btn btks) bns bks))) [.string n, .int .i64 tk, .string tn, .slice atks tks.length ctks, .int .i64 bk, .int .i64 bu, .string bn, .int .i64 btk, .string btn, .slice abtks btks.length cbtks, .slice abns bns.length cbns, .slice abks bks.length cbks] := by
  obtain ⟨cs, rfl, _⟩ := okWide_struct Try.underlying138 hv
  obtain ⟨fuel, hf⟩ := h
  obtain ⟨_, d', F, h1, h2⟩ := trod_rd tidsDf_ok tidsDf_cells fuel _ _ _ (by simp [tidsDf]) hf
  obtain ⟨⟨n, ⟨tk, tn, tks⟩, ⟨bk, bu, bn, ⟨btk, btn, btks⟩, bns, bks⟩⟩, rfl⟩ := typed_Df _ _ h2
  obtain ⟨atks, ctks, abtks, cbtks, abns, cbns, abks, cbks, hc, -⟩ := h1.Df_inv
  rw [hc] at h1
  refine ⟨n, tk, tn, tks, bk, bu, bn, btk, btn, btks, bns, bks, atks, ctks, abtks, cbtks, abns, cbns, abks, cbks, ?_, ⟨F, h1⟩⟩
  have : cs = #[.string n, .int .i64 tk, .string tn, .slice atks tks.length ctks, .int .i64 bk, .int .i64 bu, .string bn, .int .i64 btk, .string btn, .slice abtks btks.length cbtks, .slice abns bns.length cbns, .slice abks bks.length cbks] := by
    apply Array.toList_inj.1
    simpa [Value.cells] using hc
  rw [this]
def tidsDfs : List TypeId := [53, 138, 9, 24, 2, 22, 28, 25, 26]
theorem tidsDfs_ok : tidsDfs.all (okTy Try.prog tidsDfs) = true := by kernel_rfl -- 53
theorem tidsDfs_cells : tidsDfs.all (fun t => match Try.prog.underlying t with | some (.int _) => Try.prog.cellsOf t == 1 | some .bool => Try.prog.cellsOf t == 1 | some .string => Try.prog.cellsOf t == 1 | some (.slice _) => Try.prog.cellsOf t == 1 | _ => true) = true := by kernel_rfl -- 53
set_option maxRecDepth 100000 in
/-- Handed in. -/
theorem arg_Dfs {H : Type} {enc : TypeId × Value → H} {W : World} {base : Nat} {vv : Value} {d : DataW H} {p : List MemPlace} (hv : Value.okWide Try.prog W .any base 53 vv)
    (h : DataW.Trod enc Try.prog W 0 (fun _ => true) true 53 vv d p) : ∃ (ts : List Df) (a : Option Addr) (c : Nat), vv = .slice a ts.length c ∧ RdL W (Df.ds ts) (.slice a ts.length c) := by
  obtain ⟨_, _, _, rfl⟩ := okWide_slice Try.underlying53 hv
  obtain ⟨fuel, hf⟩ := h
  obtain ⟨_, d', F, h1, h2⟩ := trod_rd tidsDfs_ok tidsDfs_cells fuel _ _ _ (by simp [tidsDfs]) hf
  obtain ⟨ts, rfl⟩ := typed_Dfs _ _ h2
  obtain ⟨a, cap, hc, -⟩ := h1.list_inv
  rw [Df.ds_length] at hc
  simp only [Value.cells, List.cons.injEq, and_true] at hc
  rw [hc] at h1 ⊢
  exact ⟨ts, a, cap, rfl, F, h1⟩

end Go.Proofs.Ytdcifcfkjhpokaa
