/- FnExactInhabitedDatas: for every input. No condition. -/
import Derived.Test.YtgpefnlpbjnjbaaDTy
import Derived.Test.YtgpefnlpbjnjbaaArSc
import Derived.Test.YtgpefnlpbjnjbaaDCon
import Derived.Test.YtgpefnlpbjnjbaaDDat
import Derived.Test.YtgpefnlpbjnjbaaSzDat
import Derived.Test.YtgpefnlpbjnjbaaToDat
import Derived.Test.YtgpefnlpbjnjbaaEqDat
import Derived.Test.YtgpefnlpbjnjbaaEqSc
import Derived.Test.YtgpefnlpbjnjbaaInhF
import Derived.Test.YtgpefnlpbjnjbaaMkDat
import Derived.Test.YtgpefnlpbjnjbaaMkBo
import Derived.Deep.RegionHeld3
namespace Go.Proofs.Ytgpefnlpbjnjbaa
open Go.ChangeShapes Go.WideShapes Go.ChangeAt Go.RowKit
set_option linter.unusedVariables false

set_option maxRecDepth 100000 in
mutual
theorem typed_Ty : ∀ (n : Nat) (d : D), Typed Try.prog n 24 d → ∃ t : Ty, d = Ty.d t
  | 0, _, h => by simp [Typed] at h
  | n + 1, d, h => by
    unfold Typed at h
    rw [Try.underlying24] at h
    obtain ⟨ds, rfl, h⟩ := h
    match ds, h with
    | [d0, d1, d2], ⟨h0, h1, h2, _⟩ =>
      match n, h0, h1, h2 with
      | n + 1, h0, h1, h2 =>
        unfold Typed at h0
        rw [Try.underlying2] at h0
        obtain ⟨x0, rfl⟩ := h0
        unfold Typed at h1
        rw [Try.underlying9] at h1
        obtain ⟨x1, rfl⟩ := h1
        obtain ⟨x2, rfl⟩ := typed_Tys (n + 1) d2 h2
        exact ⟨.mk x0 x1 x2, rfl⟩
theorem typed_Tys : ∀ (n : Nat) (d : D), Typed Try.prog n 22 d → ∃ ts : List Ty, d = .list (Ty.ds ts)
  | 0, _, h => by simp [Typed] at h
  | n + 1, d, h => by
    unfold Typed at h
    rw [Try.underlying22] at h
    obtain ⟨ds, rfl, h⟩ := h
    have key : ∀ ds : List D, (∀ x ∈ ds, Typed Try.prog n 24 x) → ∃ ts, ds = Ty.ds ts := by
      intro ds
      induction ds with
      | nil => exact fun _ => ⟨[], rfl⟩
      | cons x xs ih =>
        intro hx
        obtain ⟨t, ht⟩ := typed_Ty n x (hx x (by simp))
        obtain ⟨ts, hts⟩ := ih fun y hy => hx y (by simp [hy])
        exact ⟨t :: ts, by rw [ht, hts]; rfl⟩
    obtain ⟨ts, rfl⟩ := key ds h
    exact ⟨ts, rfl⟩
end

def tidsTy : List TypeId := [24, 2, 9, 22]
theorem tidsTy_ok : tidsTy.all (okTy Try.prog tidsTy) = true := by kernel_rfl -- 24
theorem tidsTy_cells : tidsTy.all (fun t => match Try.prog.underlying t with | some (.int _) => Try.prog.cellsOf t == 1 | some .bool => Try.prog.cellsOf t == 1 | some .string => Try.prog.cellsOf t == 1 | some (.slice _) => Try.prog.cellsOf t == 1 | _ => true) = true := by kernel_rfl -- 24
set_option maxRecDepth 100000 in
/-- Handed in. -/
theorem arg_Ty {H : Type} {enc : TypeId × Value → H} {W : World} {base : Nat} {vv : Value} {d : DataW H} {p : List MemPlace} (hv : Value.okWide Try.prog W .any base 24 vv)
    (h : DataW.Trod enc Try.prog W 0 (fun _ => true) true 24 vv d p) : ∃ (k : Int) (n : ByteArray) (ks : List Ty) (aks : Option Addr) (cks : Nat), vv = .agg #[.int .i64 k, .string n, .slice aks ks.length cks] ∧ RdS W (Ty.d (Ty.mk k n ks)) [.int .i64 k, .string n, .slice aks ks.length cks] := by
  obtain ⟨cs, rfl, _⟩ := okWide_struct Try.underlying24 hv
  obtain ⟨fuel, hf⟩ := h
  obtain ⟨_, d', F, h1, h2⟩ := trod_rd tidsTy_ok tidsTy_cells fuel _ _ _ (by simp [tidsTy]) hf
  obtain ⟨⟨k, n, ks⟩, rfl⟩ := typed_Ty _ _ h2
  obtain ⟨aks, cks, hc, -⟩ := h1.Ty_inv
  rw [hc] at h1
  refine ⟨k, n, ks, aks, cks, ?_, ⟨F, h1⟩⟩
  have : cs = #[.int .i64 k, .string n, .slice aks ks.length cks] := by
    apply Array.toList_inj.1
    simpa [Value.cells] using hc
  rw [this]
def tidsTys : List TypeId := [22, 24, 2, 9]
theorem tidsTys_ok : tidsTys.all (okTy Try.prog tidsTys) = true := by kernel_rfl -- 22
theorem tidsTys_cells : tidsTys.all (fun t => match Try.prog.underlying t with | some (.int _) => Try.prog.cellsOf t == 1 | some .bool => Try.prog.cellsOf t == 1 | some .string => Try.prog.cellsOf t == 1 | some (.slice _) => Try.prog.cellsOf t == 1 | _ => true) = true := by kernel_rfl -- 22
set_option maxRecDepth 100000 in
/-- Handed in. -/
theorem arg_Tys {H : Type} {enc : TypeId × Value → H} {W : World} {base : Nat} {vv : Value} {d : DataW H} {p : List MemPlace} (hv : Value.okWide Try.prog W .any base 22 vv)
    (h : DataW.Trod enc Try.prog W 0 (fun _ => true) true 22 vv d p) : ∃ (ts : List Ty) (a : Option Addr) (c : Nat), vv = .slice a ts.length c ∧ RdL W (Ty.ds ts) (.slice a ts.length c) := by
  obtain ⟨_, _, _, rfl⟩ := okWide_slice Try.underlying22 hv
  obtain ⟨fuel, hf⟩ := h
  obtain ⟨_, d', F, h1, h2⟩ := trod_rd tidsTys_ok tidsTys_cells fuel _ _ _ (by simp [tidsTys]) hf
  obtain ⟨ts, rfl⟩ := typed_Tys _ _ h2
  obtain ⟨a, cap, hc, -⟩ := h1.list_inv
  rw [Ty.ds_length] at hc
  simp only [Value.cells, List.cons.injEq, and_true] at hc
  rw [hc] at h1 ⊢
  exact ⟨ts, a, cap, rfl, F, h1⟩

end Go.Proofs.Ytgpefnlpbjnjbaa

namespace Go.Proofs.Ytgpefnlpbjnjbaa
open Go.ChangeShapes Go.WideShapes Go.ChangeAt Go.RowKit
set_option linter.unusedVariables false

set_option maxRecDepth 100000 in
theorem typed_Con : ∀ (n : Nat) (d : D), Typed Try.prog n 186 d → ∃ t : Con, d = Con.d t
  | 0, _, h => by simp [Typed] at h
  | n + 1, d, h => by
    unfold Typed at h
    rw [Try.underlying186] at h
    obtain ⟨ds, rfl, h⟩ := h
    match ds, h with
    | [d0, d1], ⟨h0, h1, _⟩ =>
      match n, h0, h1 with
      | n + 1, h0, h1 =>
        unfold Typed at h0
        rw [Try.underlying9] at h0
        obtain ⟨x0, rfl⟩ := h0
        obtain ⟨x1, rfl⟩ := typed_Tys (n + 1) d1 h1
        exact ⟨.mk x0 x1, rfl⟩
set_option maxRecDepth 100000 in
theorem typed_Cons : ∀ (n : Nat) (d : D), Typed Try.prog n 95 d → ∃ ts : List Con, d = .list (Con.ds ts)
  | 0, _, h => by simp [Typed] at h
  | n + 1, d, h => by
    unfold Typed at h
    rw [Try.underlying95] at h
    obtain ⟨ds, rfl, h⟩ := h
    have key : ∀ ds : List D, (∀ x ∈ ds, Typed Try.prog n 186 x) → ∃ ts, ds = Con.ds ts := by
      intro ds
      induction ds with
      | nil => exact fun _ => ⟨[], rfl⟩
      | cons x xs ih =>
        intro hx
        obtain ⟨t, ht⟩ := typed_Con n x (hx x (by simp))
        obtain ⟨ts, hts⟩ := ih fun y hy => hx y (by simp [hy])
        exact ⟨t :: ts, by rw [ht, hts]; rfl⟩
    obtain ⟨ts, rfl⟩ := key ds h
    exact ⟨ts, rfl⟩

def tidsCon : List TypeId := [186, 9, 22, 24, 2]
theorem tidsCon_ok : tidsCon.all (okTy Try.prog tidsCon) = true := by kernel_rfl -- 186
theorem tidsCon_cells : tidsCon.all (fun t => match Try.prog.underlying t with | some (.int _) => Try.prog.cellsOf t == 1 | some .bool => Try.prog.cellsOf t == 1 | some .string => Try.prog.cellsOf t == 1 | some (.slice _) => Try.prog.cellsOf t == 1 | _ => true) = true := by kernel_rfl -- 186
set_option maxRecDepth 100000 in
/-- Handed in. -/
theorem arg_Con {H : Type} {enc : TypeId × Value → H} {W : World} {base : Nat} {vv : Value} {d : DataW H} {p : List MemPlace} (hv : Value.okWide Try.prog W .any base 186 vv)
    (h : DataW.Trod enc Try.prog W 0 (fun _ => true) true 186 vv d p) : ∃ (n : ByteArray) (fs : List Ty) (afs : Option Addr) (cfs : Nat), vv = .agg #[.string n, .slice afs fs.length cfs] ∧ RdS W (Con.d (Con.mk n fs)) [.string n, .slice afs fs.length cfs] := by
  obtain ⟨cs, rfl, _⟩ := okWide_struct Try.underlying186 hv
  obtain ⟨fuel, hf⟩ := h
  obtain ⟨_, d', F, h1, h2⟩ := trod_rd tidsCon_ok tidsCon_cells fuel _ _ _ (by simp [tidsCon]) hf
  obtain ⟨⟨n, fs⟩, rfl⟩ := typed_Con _ _ h2
  obtain ⟨afs, cfs, hc, -⟩ := h1.Con_inv
  rw [hc] at h1
  refine ⟨n, fs, afs, cfs, ?_, ⟨F, h1⟩⟩
  have : cs = #[.string n, .slice afs fs.length cfs] := by
    apply Array.toList_inj.1
    simpa [Value.cells] using hc
  rw [this]
def tidsCons : List TypeId := [95, 186, 9, 22, 24, 2]
theorem tidsCons_ok : tidsCons.all (okTy Try.prog tidsCons) = true := by kernel_rfl -- 95
theorem tidsCons_cells : tidsCons.all (fun t => match Try.prog.underlying t with | some (.int _) => Try.prog.cellsOf t == 1 | some .bool => Try.prog.cellsOf t == 1 | some .string => Try.prog.cellsOf t == 1 | some (.slice _) => Try.prog.cellsOf t == 1 | _ => true) = true := by kernel_rfl -- 95
set_option maxRecDepth 100000 in
/-- Handed in. -/
theorem arg_Cons {H : Type} {enc : TypeId × Value → H} {W : World} {base : Nat} {vv : Value} {d : DataW H} {p : List MemPlace} (hv : Value.okWide Try.prog W .any base 95 vv)
    (h : DataW.Trod enc Try.prog W 0 (fun _ => true) true 95 vv d p) : ∃ (ts : List Con) (a : Option Addr) (c : Nat), vv = .slice a ts.length c ∧ RdL W (Con.ds ts) (.slice a ts.length c) := by
  obtain ⟨_, _, _, rfl⟩ := okWide_slice Try.underlying95 hv
  obtain ⟨fuel, hf⟩ := h
  obtain ⟨_, d', F, h1, h2⟩ := trod_rd tidsCons_ok tidsCons_cells fuel _ _ _ (by simp [tidsCons]) hf
  obtain ⟨ts, rfl⟩ := typed_Cons _ _ h2
  obtain ⟨a, cap, hc, -⟩ := h1.list_inv
  rw [Con.ds_length] at hc
  simp only [Value.cells, List.cons.injEq, and_true] at hc
  rw [hc] at h1 ⊢
  exact ⟨ts, a, cap, rfl, F, h1⟩

end Go.Proofs.Ytgpefnlpbjnjbaa

namespace Go.Proofs.Ytgpefnlpbjnjbaa
open Go.ChangeShapes Go.WideShapes Go.ChangeAt Go.RowKit
set_option linter.unusedVariables false

set_option maxRecDepth 100000 in
theorem typed_Dat : ∀ (n : Nat) (d : D), Typed Try.prog n 97 d → ∃ t : Dat, d = Dat.d t
  | 0, _, h => by simp [Typed] at h
  | n + 1, d, h => by
    unfold Typed at h
    rw [Try.underlying97] at h
    obtain ⟨ds, rfl, h⟩ := h
    match ds, h with
    | [d0, d1], ⟨h0, h1, _⟩ =>
      match n, h0, h1 with
      | n + 1, h0, h1 =>
        unfold Typed at h0
        rw [Try.underlying9] at h0
        obtain ⟨x0, rfl⟩ := h0
        obtain ⟨x1, rfl⟩ := typed_Cons (n + 1) d1 h1
        exact ⟨.mk x0 x1, rfl⟩
set_option maxRecDepth 100000 in
theorem typed_Dats : ∀ (n : Nat) (d : D), Typed Try.prog n 36 d → ∃ ts : List Dat, d = .list (Dat.ds ts)
  | 0, _, h => by simp [Typed] at h
  | n + 1, d, h => by
    unfold Typed at h
    rw [Try.underlying36] at h
    obtain ⟨ds, rfl, h⟩ := h
    have key : ∀ ds : List D, (∀ x ∈ ds, Typed Try.prog n 97 x) → ∃ ts, ds = Dat.ds ts := by
      intro ds
      induction ds with
      | nil => exact fun _ => ⟨[], rfl⟩
      | cons x xs ih =>
        intro hx
        obtain ⟨t, ht⟩ := typed_Dat n x (hx x (by simp))
        obtain ⟨ts, hts⟩ := ih fun y hy => hx y (by simp [hy])
        exact ⟨t :: ts, by rw [ht, hts]; rfl⟩
    obtain ⟨ts, rfl⟩ := key ds h
    exact ⟨ts, rfl⟩

def tidsDat : List TypeId := [97, 9, 95, 186, 22, 24, 2]
theorem tidsDat_ok : tidsDat.all (okTy Try.prog tidsDat) = true := by kernel_rfl -- 97
theorem tidsDat_cells : tidsDat.all (fun t => match Try.prog.underlying t with | some (.int _) => Try.prog.cellsOf t == 1 | some .bool => Try.prog.cellsOf t == 1 | some .string => Try.prog.cellsOf t == 1 | some (.slice _) => Try.prog.cellsOf t == 1 | _ => true) = true := by kernel_rfl -- 97
set_option maxRecDepth 100000 in
/-- Handed in. -/
theorem arg_Dat {H : Type} {enc : TypeId × Value → H} {W : World} {base : Nat} {vv : Value} {d : DataW H} {p : List MemPlace} (hv : Value.okWide Try.prog W .any base 97 vv)
    (h : DataW.Trod enc Try.prog W 0 (fun _ => true) true 97 vv d p) : ∃ (n : ByteArray) (qs : List Con) (aqs : Option Addr) (cqs : Nat), vv = .agg #[.string n, .slice aqs qs.length cqs] ∧ RdS W (Dat.d (Dat.mk n qs)) [.string n, .slice aqs qs.length cqs] := by
  obtain ⟨cs, rfl, _⟩ := okWide_struct Try.underlying97 hv
  obtain ⟨fuel, hf⟩ := h
  obtain ⟨_, d', F, h1, h2⟩ := trod_rd tidsDat_ok tidsDat_cells fuel _ _ _ (by simp [tidsDat]) hf
  obtain ⟨⟨n, qs⟩, rfl⟩ := typed_Dat _ _ h2
  obtain ⟨aqs, cqs, hc, -⟩ := h1.Dat_inv
  rw [hc] at h1
  refine ⟨n, qs, aqs, cqs, ?_, ⟨F, h1⟩⟩
  have : cs = #[.string n, .slice aqs qs.length cqs] := by
    apply Array.toList_inj.1
    simpa [Value.cells] using hc
  rw [this]
def tidsDats : List TypeId := [36, 97, 9, 95, 186, 22, 24, 2]
theorem tidsDats_ok : tidsDats.all (okTy Try.prog tidsDats) = true := by kernel_rfl -- 36
theorem tidsDats_cells : tidsDats.all (fun t => match Try.prog.underlying t with | some (.int _) => Try.prog.cellsOf t == 1 | some .bool => Try.prog.cellsOf t == 1 | some .string => Try.prog.cellsOf t == 1 | some (.slice _) => Try.prog.cellsOf t == 1 | _ => true) = true := by kernel_rfl -- 36
set_option maxRecDepth 100000 in
/-- Handed in. -/
theorem arg_Dats {H : Type} {enc : TypeId × Value → H} {W : World} {base : Nat} {vv : Value} {d : DataW H} {p : List MemPlace} (hv : Value.okWide Try.prog W .any base 36 vv)
    (h : DataW.Trod enc Try.prog W 0 (fun _ => true) true 36 vv d p) : ∃ (ts : List Dat) (a : Option Addr) (c : Nat), vv = .slice a ts.length c ∧ RdL W (Dat.ds ts) (.slice a ts.length c) := by
  obtain ⟨_, _, _, rfl⟩ := okWide_slice Try.underlying36 hv
  obtain ⟨fuel, hf⟩ := h
  obtain ⟨_, d', F, h1, h2⟩ := trod_rd tidsDats_ok tidsDats_cells fuel _ _ _ (by simp [tidsDats]) hf
  obtain ⟨ts, rfl⟩ := typed_Dats _ _ h2
  obtain ⟨a, cap, hc, -⟩ := h1.list_inv
  rw [Dat.ds_length] at hc
  simp only [Value.cells, List.cons.injEq, and_true] at hc
  rw [hc] at h1 ⊢
  exact ⟨ts, a, cap, rfl, F, h1⟩

end Go.Proofs.Ytgpefnlpbjnjbaa

namespace Go.Proofs.Ytgpefnlpbjnjbaa
open Go.ChangeShapes Go.WideShapes Go.ChangeAt Go.RowKit
open Go.Sort (grow)
open Go.ChangeMaps (open_string)
set_option linter.unusedVariables false

set_option maxHeartbeats 1000000 in
theorem FnExactInhabitedDatas_walk (ts_x : List Dat) (a_x : Option Addr) (c_x : Nat) (w : World) (hr_x : RdL w (Dat.ds ts_x) (.slice a_x ts_x.length c_x)) :
    Calls Try.prog 5 #[.slice a_x ts_x.length c_x] w fun e w' => e = .returned (.bool true) ∧ Below w.heap.size w w' := by
  have hbw0 : Below w.heap.size w w := Below.refl _ _
  have HX0 := hid (Boxes.nil w)
  have hc0 := fun (W : World) (hb : Below w.heap.size w W) => szDats ts_x a_x c_x (1048576) W (hr_x.below hb) (by omega) (by omega)
  by_cases hp0 : ((Dat.bulks ts_x : Nat) : Int) ≤ 1048576
  case neg =>
    rw [purse_no hp0] at hc0
    have HC0 := hid hc0
    have HB0 := hid hbw0
    clear hbw0 hc0 hr_x
    go_enter Try.func5, Try.ntmps5
    go_wp2_with fail
    refine (HC0.out _ HB0.out).mono ?_
    rintro e w1 ⟨rfl, hb⟩
    have HB1 := hid (HB0.out.trans (hb.mono HB0.out.size))
    have HX1 := hid (HX0.out.below hb)
    clear hb HC0
    go_wp2_with fail
    go_ret
    exact ⟨rfl, HB1.out⟩
  case pos =>
    rw [purse_ok hp0] at hc0
    have HM_x : Hid (Dat.bulks ts_x ≤ 1048576) := by show _ ≤ _; omega
    have HC0 := hid hc0
    have HB0 := hid hbw0
    have R_x := hid hr_x
    have R0_x := hid hr_x
    clear hbw0 hc0 hr_x
    go_enter Try.func5, Try.ntmps5
    go_wp2_with fail
    refine (HC0.out _ HB0.out).mono ?_
    rintro e w1 ⟨rfl, hb⟩
    have HB1 := hid (HB0.out.trans (hb.mono HB0.out.size))
    have HX1 := hid (HX0.out.below hb)
    clear hb HC0
    have R_x := hid (R_x.out.below HB1.out)
    have hrl : (inhN ts_x).length ≤ 1048576 := by have := inhN_len ts_x; have := Dat.bulks_length ts_x; have := HM_x.out; omega
    have hxl : ts_x.length ≤ 1048576 := by have := Dat.bulks_length ts_x; have := HM_x.out; omega
    have HNX := hid (show D.nums (Dat.ds ts_x) ≤ 2097152 by have := Dat.nums_le ts_x; have := HM_x.out; omega)
    go_wp2_with fail
    refine (toDats ts_x a_x c_x _ HM_x.out ?_).mono ?_
    · exact R_x.out
    rintro e v0 ⟨a_xs, c_xs, rfl, ho_xs, hb⟩
    have HB2 := hid (HB1.out.trans (hb.mono HB1.out.size))
    have R_x := hid (R_x.out.below hb)
    have C_xs := hid ho_xs.rd
    clear hb ho_xs
    go_wp2_with fail
    refine (spec_Inh _ _ _ _ ?_ ?_).mono ?_
    · exact HM_x.out
    · exact C_xs.out
    rintro e vs ⟨a_w, c_w, rfl, ho_w, hb⟩
    have HSZw := hid hb.size
    have HB3 := hid (HB2.out.trans (hb.mono HB2.out.size))
    have R_x := hid (R_x.out.below hb)
    have C_xs := hid (C_xs.out.below hb)
    have W0 := hid ho_w.rd
    have W_w := hid ho_w.rd
    have HV := hid (Below.refl vs.heap.size vs)
    have HWV := hid HB3.out.size
    clear hb ho_w C_xs HSZw
    go_wp2_with fail
    refine (toDats ts_x a_x c_x _ HM_x.out ?_).mono ?_
    · exact R_x.out
    rintro e x0 ⟨a_xx, c_xx, rfl, ho_xx, hb⟩
    have HSZx := hid hb.size
    have HB4 := hid (HB3.out.trans (hb.mono HB3.out.size))
    have R_x := hid (R_x.out.below hb)
    have W_w := hid (W_w.out.below hb)
    have HV := hid (HV.out.trans (hb.mono HV.out.size))
    obtain ⟨Fx, hRx, hOx⟩ := ho_xx
    have C_xx := hid (show RdL _ _ _ from ⟨Fx, hRx⟩)
    clear hb
    have HRX := hid hRx
    have HOX := hid (hOx.mono (base' := 0) (Nat.zero_le _))
    have LOX := hid (fun b (hb : b ∈ Fx) => (⟨(hOx.2 b hb).1, hRx.lt b hb⟩ : vs.heap.size ≤ b ∧ b < x0.heap.size))
    clear hRx hOx
    go_wp2_with fail
    refine (impl_Inh _ _ _ _ ?_ ?_).mono ?_
    · exact HM_x.out
    · exact C_xx.out
    rintro e vi ⟨a_g, c_g, rfl, ho_g, hb⟩
    have HSZg := hid hb.size
    have HB5 := hid (HB4.out.trans (hb.mono HB4.out.size))
    have R_x := hid (R_x.out.below hb)
    have W_w := hid (W_w.out.below hb)
    have HV := hid (HV.out.trans (hb.mono HV.out.size))
    have C_xx := hid (C_xx.out.below hb)
    have HRX := hid (HRX.out.below hb)
    have HOX := hid (HOX.out.below hb)
    obtain ⟨Fg, hRg, hOg⟩ := ho_g
    have HRG := hid hRg
    have HOG := hid (hOg.mono (base' := 0) (Nat.zero_le _))
    have LOG := hid (fun b (hb : b ∈ Fg) => (hOg.2 b hb).1)
    clear hRg hOg hb HSZg
    go_wp2_with fail
    refine (eqBos _ _ _ _ _ _ ?_ ?_).mono ?_
    · exact ⟨Fg, HRG.out⟩
    · exact W_w.out
    rintro e ve ⟨rfl, hb⟩
    have HB6 := hid (HB5.out.trans (hb.mono HB5.out.size))
    have R_x := hid (R_x.out.below hb)
    have W_w := hid (W_w.out.below hb)
    have HV := hid (HV.out.trans (hb.mono HV.out.size))
    have C_xx := hid (C_xx.out.below hb)
    have HRX := hid (HRX.out.below hb)
    have HOX := hid (HOX.out.below hb)
    have HRG := hid (HRG.out.below hb)
    have HOG := hid (HOG.out.below hb)
    clear hb
    go_wp2_with fail
    refine (toDats ts_x a_x c_x _ HM_x.out ?_).mono ?_
    · exact R_x.out
    rintro e ya ⟨a_xe, c_xe, rfl, ho_xe, hb⟩
    have HB7 := hid (HB6.out.trans (hb.mono HB6.out.size))
    have R_x := hid (R_x.out.below hb)
    have W_w := hid (W_w.out.below hb)
    have HV := hid (HV.out.trans (hb.mono HV.out.size))
    have C_xx := hid (C_xx.out.below hb)
    have HRX := hid (HRX.out.below hb)
    have HOX := hid (HOX.out.below hb)
    have HRG := hid (HRG.out.below hb)
    have HOG := hid (HOG.out.below hb)
    have C_xe := hid ho_xe.rd
    clear hb ho_xe
    go_wp2_with fail
    refine (eqDats _ _ _ _ _ _ ?_ ?_).mono ?_
    · exact C_xx.out
    · exact C_xe.out
    rintro e yb ⟨rfl, hb⟩
    have HB8 := hid (HB7.out.trans (hb.mono HB7.out.size))
    have R_x := hid (R_x.out.below hb)
    have W_w := hid (W_w.out.below hb)
    have HV := hid (HV.out.trans (hb.mono HV.out.size))
    have C_xx := hid (C_xx.out.below hb)
    have HRX := hid (HRX.out.below hb)
    have HOX := hid (HOX.out.below hb)
    have HRG := hid (HRG.out.below hb)
    have HOG := hid (HOG.out.below hb)
    have C_xe := hid (C_xe.out.below hb)
    clear hb
    clear C_xe
    have hm := markDats ts_x a_xx c_xx Fx 1 yb (by omega) (by have := HNX.out; omega) HRX.out HOX.out
    unfold MkPost at hm
    obtain ⟨kx, hkx⟩ : ∃ m, m = 1 + D.nums (Dat.ds ts_x) := ⟨_, rfl⟩
    rw [← hkx, show ((1 : Nat) : Int) = 1 from rfl] at hm
    have HM_kx := hid hkx
    have hb_kx : kx ≤ 1099511627776 := by have := HNX.out; omega
    clear hkx
    have HMC := hid hm
    clear hm
    go_wp2_with fail
    refine HMC.out.mono ?_
    rintro e km ⟨rfl, hrd, hmk⟩
    have HB9 := hid (Mk.below HB8.out hmk (fun b hb => by have h1 := HWV.out; have h2 := (LOX.out b hb).1; omega) HB8.out.size)
    have HV := hid (Mk.below HV.out hmk (fun b hb => by have h2 := (LOX.out b hb).1; omega) HV.out.size)
    have R_x := hid (R0_x.out.below HB9.out)
    have W_w := hid (W0.out.below HV.out)
    have HRG := hid (hmk.rd HRG.out (fun b hb hy => by have h1 := LOG.out b hb; have h2 := LOX.out b hy; omega))
    have HOG := hid (hmk.own HOG.out)
    have hk0 : decide ((kx : Int) < 0) = false := decide_eq_false (by omega)
    clear hmk hrd C_xx HRX HOX HMC
    go_wp2_with fail
    refine (eqBos _ _ _ _ _ _ ?_ ?_).mono ?_
    · exact ⟨Fg, HRG.out⟩
    · exact W_w.out
    rintro e vf ⟨rfl, hb⟩
    have HB10 := hid (HB9.out.trans (hb.mono HB9.out.size))
    have R_x := hid (R_x.out.below hb)
    have W_w := hid (W_w.out.below hb)
    have HV := hid (HV.out.trans (hb.mono HV.out.size))
    have HRG := hid (HRG.out.below hb)
    have HOG := hid (HOG.out.below hb)
    clear hb
    clear hk0
    have HSX := hid HSZx.out
    have hm := markBos (inhN ts_x) a_g c_g Fg 1 vf (by omega) (by rw [nums_Bo]; omega) HRG.out HOG.out
    unfold MkPost at hm
    obtain ⟨mm, hmm⟩ : ∃ m, m = 1 + D.nums (Bo.ds (inhN ts_x)) := ⟨_, rfl⟩
    rw [← hmm, show ((1 : Nat) : Int) = 1 from rfl] at hm
    have HM_mm := hid hmm
    have hb_mm : mm ≤ 1099511627776 := by have h := HM_mm.out; rw [nums_Bo] at h; omega
    clear hmm
    have HMC := hid hm
    clear hm
    go_wp2_with fail
    refine HMC.out.mono ?_
    rintro e kg ⟨rfl, hrd, hmk⟩
    have HB11 := hid (Mk.below HB10.out hmk (fun b hb => by have h1 := HWV.out; have h2 := LOG.out b hb; have h3 := HSX.out; omega) HB10.out.size)
    have HV := hid (Mk.below HV.out hmk (fun b hb => by have h2 := LOG.out b hb; have h3 := HSX.out; omega) HV.out.size)
    have R_x := hid (R0_x.out.below HB11.out)
    have W_w := hid (W0.out.below HV.out)
    have HRM := hid (show RdL kg (D.marks 1 (Bo.ds (inhN ts_x))) (.slice a_g (inhN ts_x).length c_g) from ⟨Fg, hrd⟩)
    clear hmk hrd HRG HOG HMC
    have hh := heldBos (inhN ts_x) a_g c_g 1 kg (by omega) HRM.out
    rw [show 1 + (inhN ts_x).length = mm from by have := HM_mm.out; rw [nums_Bo] at this; omega, show ((1 : Nat) : Int) = 1 from rfl] at hh
    have HH := hid hh
    clear hh
    have hm0 : decide ((mm : Int) < 0) = false := decide_eq_false (by omega)
    go_wp2_with fail
    refine HH.out.mono ?_
    rintro e kh ⟨rfl, hb⟩
    have HB12 := hid (HB11.out.trans (hb.mono HB11.out.size))
    have R_x := hid (R_x.out.below hb)
    have W_w := hid (W_w.out.below hb)
    have HV := hid (HV.out.trans (hb.mono HV.out.size))
    have HRM := hid (HRM.out.below hb)
    clear HH hb
    go_wp2_with fail
    refine (toDats ts_x a_x c_x _ HM_x.out ?_).mono ?_
    · exact R_x.out
    rintro e vh0 ⟨a_xh, c_xh, rfl, ho_xh, hb⟩
    have HB13 := hid (HB12.out.trans (hb.mono HB12.out.size))
    have R_x := hid (R_x.out.below hb)
    have W_w := hid (W_w.out.below hb)
    have HV := hid (HV.out.trans (hb.mono HV.out.size))
    have HRM := hid (HRM.out.below hb)
    have C_xh := hid ho_xh.rd
    clear hb ho_xh
    go_wp2_with fail
    refine (impl_Inh _ _ _ _ ?_ ?_).mono ?_
    · exact HM_x.out
    · exact C_xh.out
    rintro e vh ⟨a_h, c_h, rfl, ho_h, hb⟩
    have HSZh := hid hb.size
    have HB14 := hid (HB13.out.trans (hb.mono HB13.out.size))
    have R_x := hid (R_x.out.below hb)
    have W_w := hid (W_w.out.below hb)
    have HV := hid (HV.out.trans (hb.mono HV.out.size))
    have HRM := hid (HRM.out.below hb)
    have C_xh := hid (C_xh.out.below hb)
    have HRH := hid ho_h.rd
    clear hb ho_h C_xh HSZh hm0
    go_wp2_with fail
    refine (eqBos _ _ _ _ _ _ ?_ ?_).mono ?_
    · exact HRH.out
    · exact W_w.out
    rintro e vj ⟨rfl, hb⟩
    have HB15 := hid (HB14.out.trans (hb.mono HB14.out.size))
    have R_x := hid (R_x.out.below hb)
    have W_w := hid (W_w.out.below hb)
    have HV := hid (HV.out.trans (hb.mono HV.out.size))
    have HRM := hid (HRM.out.below hb)
    have HRH := hid (HRH.out.below hb)
    clear hb
    have hh := heldBos (inhN ts_x) a_g c_g 1 vj (by omega) HRM.out
    rw [show 1 + (inhN ts_x).length = mm from by have := HM_mm.out; rw [nums_Bo] at this; omega, show ((1 : Nat) : Int) = 1 from rfl] at hh
    have HH := hid hh
    clear hh
    have hm0 : decide ((mm : Int) < 0) = false := decide_eq_false (by omega)
    go_wp2_with fail
    refine HH.out.mono ?_
    rintro e kj ⟨rfl, hb⟩
    have HB16 := hid (HB15.out.trans (hb.mono HB15.out.size))
    have R_x := hid (R_x.out.below hb)
    have W_w := hid (W_w.out.below hb)
    have HV := hid (HV.out.trans (hb.mono HV.out.size))
    have HRM := hid (HRM.out.below hb)
    have HRH := hid (HRH.out.below hb)
    clear HH hb
    go_wp2_with fail
    go_ret
    exact ⟨rfl, HB16.out⟩

set_option maxRecDepth 100000 in
theorem FnExactInhabitedDatas_lifted (os : Os) (started : os.Started) (H : Type) (enc : TypeId × Value → H) :
    ReturnsInHanded {} Try.checked os 5 .any (Rows.fnExactInhabitedDatasSpec.pre6 enc Try.prog Try.f5 Rows.fnExactInhabitedDatasRow.domain false) (Rows.fnExactInhabitedDatasSpec.post enc Try.prog Try.f5 false true false false) := by
  refine law_lifted (C := Try.checked) (tb := 4) own started (by kernel_rfl) Try.func5 laidOut (by intro t ht; rw [Try.params5] at ht; simp at ht; subst ht; exact ⟨by kernel_rfl, of_decide_eq_true (by kernel_rfl)⟩) rfl Try.underlying4 rfl ?_
    (ChangeSpec.witness6 (enc := enc) (C := Try.checked) false ⟨#[], #[.slice none 0 0], []⟩ 8 (by kernel_rfl) (by kernel_rfl) (by kernel_rfl) (by kernel_rfl)) ?_
  · intro ds hds
    rw [Try.params5] at hds
    match ds, hds with
    | [_], _ => exact ⟨rfl, rfl, rfl⟩
  intro W base args ds p hval0 hA0 hlt
  have hval : ∀ (j : Nat) t v, Try.f5.params[j]? = some t → args[j]? = some v → Value.okWide Try.prog W .any base t v := hval0
  have hA : DataW.TrodAll enc Try.prog W 0 (fun _ => true) true Try.f5.params.toList args.toList ds p := hA0
  rw [Try.params5] at hA hval
  clear hval0 hA0
  obtain ⟨v0, vs0, d0, ds0, p0, q0, hargs0, rfl, rfl, h0, r0⟩ := trodAll_cons hA
  obtain ⟨rfl, rfl, rfl⟩ := trodAll_nil r0
  obtain rfl : args = #[v0] := by cases args; simp_all
  obtain ⟨ts_x, a_x, c_x, rfl, hr_x⟩ := arg_Dats (hval 0 36 v0 rfl rfl) h0
  exact FnExactInhabitedDatas_walk ts_x a_x c_x W hr_x

theorem FnExactInhabitedDatas_holds : Rows.FnExactInhabitedDatasSaid :=
  OpenClaim.holds_of_wide 5 Try.f5 rfl rfl rfl rfl rfl rfl rfl ⟨rfl, rfl, rfl, rfl, rfl⟩ rfl rfl rfl rfl rfl (by kernel_rfl) Try.func5 (by kernel_rfl)
    (of_decide_eq_true (by kernel_rfl)) (by unfold Func.isWrapper; first | (rw [if_pos (by decide +kernel)]; kernel_rfl) | (rw [if_neg (by decide +kernel)]; exact ⟨rfl, rfl⟩))
    (fun os started H enc _ => FnExactInhabitedDatas_lifted os started H enc)
end Go.Proofs.Ytgpefnlpbjnjbaa
