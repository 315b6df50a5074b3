/- FnExactStripBangs: for every input. No condition. -/
import Derived.Test.YtgpefnlpbjnjbaaArTy
import Derived.Test.YtgpefnlpbjnjbaaSzTy
import Derived.Test.YtgpefnlpbjnjbaaToTy
import Derived.Test.YtgpefnlpbjnjbaaEqTy
import Derived.Test.YtgpefnlpbjnjbaaStB
import Derived.Test.YtgpefnlpbjnjbaaHdTy
import Derived.Deep.RegionHeld3
namespace Go.Proofs.Ytgpefnlpbjnjbaa
open Go.ChangeShapes Go.WideShapes Go.ChangeAt Go.RowKit
open Go.Sort (grow)
open Go.ChangeMaps (open_string)
set_option linter.unusedVariables false

set_option maxHeartbeats 1000000 in
theorem FnExactStripBangs_walk (k_x : Int) (n_x : ByteArray) (ks_x : List Ty) (aks_x : Option Addr) (cks_x : Nat) (w : World) (hr_x : RdS w (Ty.d (Ty.mk k_x n_x ks_x)) [.int .i64 k_x, .string n_x, .slice aks_x ks_x.length cks_x]) :
    Calls Try.prog 4 #[.agg #[.int .i64 k_x, .string n_x, .slice aks_x ks_x.length cks_x]] w fun e w' => e = .returned (.bool true) ∧ Below w.heap.size w w' := by
  have hbw0 : Below w.heap.size w (w.alloc (.cells #[.int .i64 k_x, .string n_x, .slice aks_x ks_x.length cks_x] 24)) := ((Below.refl _ _).alloc (by simp) _)
  have HX0 := hid ((Boxes.nil w).alloc #[.int .i64 k_x, .string n_x, .slice aks_x ks_x.length cks_x] 24 (0, 0))
  have hc0 := fun (W : World) (hb : Below w.heap.size w W) => szTy k_x n_x ks_x aks_x cks_x (1048576) W (hr_x.below hb) (by omega) (by omega)
  by_cases hp0 : ((Ty.bulk (Ty.mk k_x n_x ks_x) : Nat) : Int) ≤ 1048576
  case neg =>
    rw [purse_no hp0] at hc0
    have HC0 := hid hc0
    have HB0 := hid hbw0
    clear hbw0 hc0 hr_x
    go_enter Try.func4, Try.ntmps4
    go_wp2_with fail
    refine (HC0.out _ HB0.out).mono ?_
    rintro e w1 ⟨rfl, hb⟩
    have HB1 := hid (HB0.out.trans (hb.mono (by simp)))
    have HX1 := hid (HX0.out.below hb)
    clear hb HC0
    go_wp2_with fail
    go_ret
    exact ⟨rfl, HB1.out⟩
  case pos =>
    rw [purse_ok hp0] at hc0
    have HM_x : Hid (Ty.bulk (Ty.mk k_x n_x ks_x) ≤ 1048576) := by show _ ≤ _; omega
    have HC0 := hid hc0
    have HB0 := hid hbw0
    have R_x := hid hr_x
    have R0_x := hid hr_x
    clear hbw0 hc0 hr_x
    go_enter Try.func4, Try.ntmps4
    go_wp2_with fail
    refine (HC0.out _ HB0.out).mono ?_
    rintro e w1 ⟨rfl, hb⟩
    have HB1 := hid (HB0.out.trans (hb.mono (by simp)))
    have HX1 := hid (HX0.out.below hb)
    clear hb HC0
    have R_x := hid (R_x.out.below HB1.out)
    obtain ⟨rm, rk, rn, rks, hres⟩ : ∃ rm rk rn rks, stripN (Ty.mk k_x n_x ks_x) = (rm, Ty.mk rk rn rks) := stripN_eta _
    have HRES := hid hres
    have HRB : Hid (Ty.bulk (Ty.mk rk rn rks) ≤ 1048576) := by have h := stripN_bulk (Ty.mk k_x n_x ks_x); rw [hres] at h; simp only at h; have := HM_x.out; show _ ≤ _; omega
    clear hres
    have gw_0 := HX1.out.at 0 0 rfl rfl
    have gw_1 := HX1.out.at 0 1 rfl rfl
    have gw_2 := HX1.out.at 0 2 rfl rfl
    go_wp2_with fail
    clear gw_0 gw_1 gw_2
    refine (toTy k_x n_x ks_x aks_x cks_x _ HM_x.out ?_).mono ?_
    · exact R_x.out
    rintro e v0 ⟨aks_xs, cks_xs, rfl, ho_xs, hb⟩
    have HB2 := hid (HB1.out.trans (hb.mono HB1.out.size))
    have HX2 := hid (HX1.out.below hb)
    have R_x := hid (R_x.out.below hb)
    have C_xs := hid ho_xs.rd
    clear hb ho_xs
    go_wp2_with fail
    refine (spec_StripBangs _ _ _ _ _ _ ?_ ?_ HRES.out).mono ?_
    · exact HM_x.out
    · exact C_xs.out
    rintro e vs ⟨arksw, crksw, rfl, ho_w, hb⟩
    have HSZw := hid hb.size
    have HB3 := hid (HB2.out.trans (hb.mono HB2.out.size))
    have HX3 := hid (HX2.out.below hb)
    have R_x := hid (R_x.out.below hb)
    have C_xs := hid (C_xs.out.below hb)
    have HO01 := hid (show w.heap.size < vs.heap.size from (HX3.out 0 _ _ rfl).1)
    have W_w := hid ho_w.rd
    clear hb ho_w C_xs HSZw
    have hba : Below vs.heap.size vs (vs.alloc (.cells #[.int .i64 rk, .string rn, .slice arksw rks.length crksw] 28)) := (Below.refl _ _).alloc (Nat.le_refl _) _
    have HXa := hid (HX3.out.alloc #[.int .i64 rk, .string rn, .slice arksw rks.length crksw] 28 (0, 0))
    have HB4 := hid (HB3.out.trans (hba.mono HB3.out.size))
    have HX4 := hid (HX3.out.below hba)
    have R_x := hid (R_x.out.below hba)
    have W_w := hid (W_w.out.below hba)
    clear hba
    have HX4 := HXa
    clear HXa
    have W0 := W_w
    have HV := hid (Below.refl (vs.alloc (.cells #[.int .i64 rk, .string rn, .slice arksw rks.length crksw] 28)).heap.size (vs.alloc (.cells #[.int .i64 rk, .string rn, .slice arksw rks.length crksw] 28)))
    have HBV := HB4
    have gw_0 := HX4.out.at 1 0 rfl rfl
    have gw_1 := HX4.out.at 1 1 rfl rfl
    have gw_2 := HX4.out.at 1 2 rfl rfl
    go_wp2_with fail
    clear gw_0 gw_1 gw_2
    refine (toTy k_x n_x ks_x aks_x cks_x _ HM_x.out ?_).mono ?_
    · exact R_x.out
    rintro e x0 ⟨aks_xx, cks_xx, rfl, ho_xx, hb⟩
    have HSZx := hid hb.size
    have HB5 := hid (HB4.out.trans (hb.mono HB4.out.size))
    have HX5 := hid (HX4.out.below hb)
    have R_x := hid (R_x.out.below hb)
    have W_w := hid (W_w.out.below hb)
    have HV := hid (HV.out.trans (hb.mono HV.out.size))
    obtain ⟨Fx, hRx, hOx⟩ := ho_xx
    have C_xx := hid (show RdS _ _ _ from ⟨Fx, hRx⟩)
    clear hb
    have HO12 := hid (show vs.heap.size + 1 ≤ x0.heap.size by have h := HSZx.out; simp at h; omega)
    have HRX := hid hRx
    have HOX := hid (hOx.mono (base' := 0) (Nat.zero_le _))
    have LOX := hid (fun b (hb : b ∈ Fx) => (⟨by have h := (hOx.2 b hb).1; simp at h; omega, hRx.lt b hb⟩ : vs.heap.size + 1 ≤ b ∧ b < x0.heap.size))
    clear hRx hOx HSZx
    have hba : Below x0.heap.size x0 (x0.alloc (.cells #[.int .i64 k_x, .string n_x, .slice aks_xx ks_x.length cks_xx] 28)) := (Below.refl _ _).alloc (Nat.le_refl _) _
    have HXa := hid (HX5.out.alloc #[.int .i64 k_x, .string n_x, .slice aks_xx ks_x.length cks_xx] 28 (0, 0))
    have HB6 := hid (HB5.out.trans (hba.mono HB5.out.size))
    have HX6 := hid (HX5.out.below hba)
    have R_x := hid (R_x.out.below hba)
    have W_w := hid (W_w.out.below hba)
    have HV := hid (HV.out.trans (hba.mono HV.out.size))
    have C_xx := hid (C_xx.out.below hba)
    have HRX := hid (HRX.out.below hba)
    have HOX := hid (HOX.out.below hba)
    clear hba
    have HX6 := HXa
    clear HXa
    have gx_0 := HX6.out.at 0 0 rfl rfl
    have gx_1 := HX6.out.at 0 1 rfl rfl
    have gx_2 := HX6.out.at 0 2 rfl rfl
    go_wp2_with fail
    clear gx_0 gx_1 gx_2
    refine (impl_StripBangs _ _ _ _ _ _ ?_ ?_ HRES.out).mono ?_
    · exact HM_x.out
    · exact C_xx.out
    rintro e vi ⟨arksg, crksg, rfl, ho_g, hb⟩
    have HSZg := hid hb.size
    have HB7 := hid (HB6.out.trans (hb.mono HB6.out.size))
    have HX7 := hid (HX6.out.below hb)
    have R_x := hid (R_x.out.below hb)
    have W_w := hid (W_w.out.below hb)
    have HV := hid (HV.out.trans (hb.mono HV.out.size))
    have C_xx := hid (C_xx.out.below hb)
    have HRX := hid (HRX.out.below hb)
    have HOX := hid (HOX.out.below hb)
    have HO23 := hid (show x0.heap.size + 1 ≤ vi.heap.size by have h := HSZg.out; simp at h; omega)
    obtain ⟨Fg, hRg, hOg⟩ := ho_g
    have HRG := hid hRg
    have HOG := hid (hOg.mono (base' := 0) (Nat.zero_le _))
    have LOG := hid (fun b (hb : b ∈ Fg) => (⟨by have h := (hOg.2 b hb).1; simp at h; omega, hRg.lt b hb⟩ : x0.heap.size + 1 ≤ b ∧ b < vi.heap.size))
    clear hRg hOg hb HSZg
    have hba : Below vi.heap.size vi (vi.alloc (.cells #[.int .i64 rk, .string rn, .slice arksg rks.length crksg] 28)) := (Below.refl _ _).alloc (Nat.le_refl _) _
    have HXa := hid (HX7.out.alloc #[.int .i64 rk, .string rn, .slice arksg rks.length crksg] 28 (0, 0))
    have HB8 := hid (HB7.out.trans (hba.mono HB7.out.size))
    have HX8 := hid (HX7.out.below hba)
    have R_x := hid (R_x.out.below hba)
    have W_w := hid (W_w.out.below hba)
    have HV := hid (HV.out.trans (hba.mono HV.out.size))
    have C_xx := hid (C_xx.out.below hba)
    have HRX := hid (HRX.out.below hba)
    have HOX := hid (HOX.out.below hba)
    have HRG := hid (HRG.out.below hba)
    have HOG := hid (HOG.out.below hba)
    clear hba
    have HX8 := HXa
    clear HXa
    have gg_0 := HX8.out.at 0 0 rfl rfl
    have gg_1 := HX8.out.at 0 1 rfl rfl
    have gg_2 := HX8.out.at 0 2 rfl rfl
    have gr_0 := HX8.out.at 2 0 rfl rfl
    have gr_1 := HX8.out.at 2 1 rfl rfl
    have gr_2 := HX8.out.at 2 2 rfl rfl
    go_wp2_with fail
    clear gg_0 gg_1 gg_2 gr_0 gr_1 gr_2
    refine (eqTy _ _ _ _ _ _ _ _ ?_ ?_).mono ?_
    · exact ⟨Fg, HRG.out⟩
    · exact W_w.out
    rintro e ve ⟨rfl, hb⟩
    have HB9 := hid (HB8.out.trans (hb.mono HB8.out.size))
    have HX9 := hid (HX8.out.below hb)
    have R_x := hid (R_x.out.below hb)
    have W_w := hid (W_w.out.below hb)
    have HV := hid (HV.out.trans (hb.mono HV.out.size))
    have C_xx := hid (C_xx.out.below hb)
    have HRX := hid (HRX.out.below hb)
    have HOX := hid (HOX.out.below hb)
    have HRG := hid (HRG.out.below hb)
    have HOG := hid (HOG.out.below hb)
    clear hb
    go_wp2_with fail
    have gx_0 := HX9.out.at 1 0 rfl rfl
    have gx_1 := HX9.out.at 1 1 rfl rfl
    have gx_2 := HX9.out.at 1 2 rfl rfl
    have gw_0 := HX9.out.at 3 0 rfl rfl
    have gw_1 := HX9.out.at 3 1 rfl rfl
    have gw_2 := HX9.out.at 3 2 rfl rfl
    have hkeep : ∀ V V' : World, Below V.heap.size V V' → (Below ve.heap.size ve V ∧ V.cell? ⟨x0.heap.size, 0, none⟩ = some (.int .i64 k_x) ∧ V.cell? ⟨x0.heap.size, 1, none⟩ = some (.string n_x) ∧ V.cell? ⟨x0.heap.size, 2, none⟩ = some (.slice aks_xx ks_x.length cks_xx) ∧ V.cell? ⟨w.heap.size, 0, none⟩ = some (.int .i64 k_x) ∧ V.cell? ⟨w.heap.size, 1, none⟩ = some (.string n_x) ∧ V.cell? ⟨w.heap.size, 2, none⟩ = some (.slice aks_x ks_x.length cks_x)) → (Below ve.heap.size ve V' ∧ V'.cell? ⟨x0.heap.size, 0, none⟩ = some (.int .i64 k_x) ∧ V'.cell? ⟨x0.heap.size, 1, none⟩ = some (.string n_x) ∧ V'.cell? ⟨x0.heap.size, 2, none⟩ = some (.slice aks_xx ks_x.length cks_xx) ∧ V'.cell? ⟨w.heap.size, 0, none⟩ = some (.int .i64 k_x) ∧ V'.cell? ⟨w.heap.size, 1, none⟩ = some (.string n_x) ∧ V'.cell? ⟨w.heap.size, 2, none⟩ = some (.slice aks_x ks_x.length cks_x)) := fun V V' hb ⟨h, _⟩ =>
      have hb' := h.trans (hb.mono h.size)
      ⟨hb', (hb'.cell (p := ⟨_, 0, none⟩) (World.block_lt_of_cell? _ _ gx_0)).trans gx_0, (hb'.cell (p := ⟨_, 1, none⟩) (World.block_lt_of_cell? _ _ gx_1)).trans gx_1, (hb'.cell (p := ⟨_, 2, none⟩) (World.block_lt_of_cell? _ _ gx_2)).trans gx_2, (hb'.cell (p := ⟨_, 0, none⟩) (World.block_lt_of_cell? _ _ gw_0)).trans gw_0, (hb'.cell (p := ⟨_, 1, none⟩) (World.block_lt_of_cell? _ _ gw_1)).trans gw_1, (hb'.cell (p := ⟨_, 2, none⟩) (World.block_lt_of_cell? _ _ gw_2)).trans gw_2⟩
    have KEEP := hid hkeep
    clear hkeep
    have hbd : Below ve.heap.size ve ve.drew := (Below.refl _ _).drew
    go_region_held3 (fun V => Below ve.heap.size ve V ∧ V.cell? ⟨x0.heap.size, 0, none⟩ = some (.int .i64 k_x) ∧ V.cell? ⟨x0.heap.size, 1, none⟩ = some (.string n_x) ∧ V.cell? ⟨x0.heap.size, 2, none⟩ = some (.slice aks_xx ks_x.length cks_xx) ∧ V.cell? ⟨w.heap.size, 0, none⟩ = some (.int .i64 k_x) ∧ V.cell? ⟨w.heap.size, 1, none⟩ = some (.string n_x) ∧ V.cell? ⟨w.heap.size, 2, none⟩ = some (.slice aks_x ks_x.length cks_x))
      (first | exact KEEP.out _ _ hbq (by assumption) | go_keep)
      (first
        | (go_at_call 11; (with_reducible refine (toTy k_x n_x ks_x aks_x cks_x _ HM_x.out ?_).mono ?_); (exact R_x.out.below (‹Below ve.heap.size ve _ ∧ _›).1); rintro e ya ⟨aks_xe, cks_xe, rfl, ho_xe, hbq⟩)
        | (go_at_call 13; (with_reducible refine (eqTy _ _ _ _ _ _ _ _ ?_ ?_).mono ?_); (exact C_xx.out.below ((‹Below ve.heap.size ve ya ∧ _›).1)); (exact ho_xe.rd); rintro e yb ⟨rfl, hbq⟩))
    obtain ⟨hbr, -⟩ := ‹Below ve.heap.size ve yb ∧ _›
    clear KEEP hbd gx_0 gx_1 gx_2 gw_0 gw_1 gw_2
    have HB10 := hid (HB9.out.trans (hbr.mono HB9.out.size))
    have HX10 := hid (HX9.out.below hbr)
    have R_x := hid (R_x.out.below hbr)
    have W_w := hid (W_w.out.below hbr)
    have HV := hid (HV.out.trans (hbr.mono HV.out.size))
    have C_xx := hid (C_xx.out.below hbr)
    have HRX := hid (HRX.out.below hbr)
    have HOX := hid (HOX.out.below hbr)
    have HRG := hid (HRG.out.below hbr)
    have HOG := hid (HOG.out.below hbr)
    clear hbr ho_xe
    have gx_0 := HX10.out.at 1 0 rfl rfl
    have gx_1 := HX10.out.at 1 1 rfl rfl
    have gx_2 := HX10.out.at 1 2 rfl rfl
    have hm1 := markTy_in k_x n_x ks_x aks_xx cks_xx Fx 1 yb HM_x.out (by omega) HRX.out HOX.out
    rw [show ((1 : Nat) : Int) = 1 from rfl] at hm1
    have HM1 := hid hm1
    clear hm1
    go_wp2_with fail
    clear gx_0 gx_1 gx_2
    refine HM1.out.mono ?_
    rintro e km ⟨kx, rfl, hrk, hmk⟩
    have HB11 := hid (Mk.below HB10.out hmk (fun b hb => by have h1 := HO01.out; have h2 := HO12.out; have h3 := HO23.out; have h4 := LOX.out b hb; omega) HB10.out.size)
    have HV := hid (Mk.below HV.out hmk (fun b hb => by have h1 := HO01.out; have h2 := HO12.out; have h3 := HO23.out; have h4 := LOX.out b hb; simp; omega) HV.out.size)
    have HX11 := hid (Boxes.mk HX10.out hmk (fun q hq hy => by
      have h1 := HO01.out; have h2 := HO12.out; have h3 := HO23.out; have h4 := LOX.out q.1 hy
      simp only [List.mem_cons, List.not_mem_nil, or_false] at hq
      rcases hq with rfl | rfl | rfl | rfl <;> simp only at h4 <;> omega))
    have R_x := hid (R0_x.out.below HB11.out)
    have W_w := hid (W0.out.below HV.out)
    have HRG := hid (hmk.rd HRG.out (fun b hb hy => by have h1 := LOG.out b hb; have h2 := LOX.out b hy; omega))
    have HOG := hid (hmk.own HOG.out)
    have hrk2 : kx ≤ 1099511627776 := by have := HM_x.out; omega
    have hk0 : decide ((kx : Int) < 0) = false := decide_eq_false (by omega)
    clear hmk hrk C_xx HRX HOX HM1
    have gg_0 := HX11.out.at 0 0 rfl rfl
    have gg_1 := HX11.out.at 0 1 rfl rfl
    have gg_2 := HX11.out.at 0 2 rfl rfl
    have gr_0 := HX11.out.at 2 0 rfl rfl
    have gr_1 := HX11.out.at 2 1 rfl rfl
    have gr_2 := HX11.out.at 2 2 rfl rfl
    go_wp2_with fail
    clear gg_0 gg_1 gg_2 gr_0 gr_1 gr_2
    refine (eqTy _ _ _ _ _ _ _ _ ?_ ?_).mono ?_
    · exact ⟨Fg, HRG.out⟩
    · exact W_w.out
    rintro e vf ⟨rfl, hb⟩
    have HB12 := hid (HB11.out.trans (hb.mono HB11.out.size))
    have HX12 := hid (HX11.out.below hb)
    have R_x := hid (R_x.out.below hb)
    have W_w := hid (W_w.out.below hb)
    have HV := hid (HV.out.trans (hb.mono HV.out.size))
    have HRG := hid (HRG.out.below hb)
    have HOG := hid (HOG.out.below hb)
    clear hb
    clear hk0
    have gg_0 := HX12.out.at 0 0 rfl rfl
    have gg_1 := HX12.out.at 0 1 rfl rfl
    have gg_2 := HX12.out.at 0 2 rfl rfl
    have hnb : D.nums (Ty.ds rks) ≤ 1099511627774 := by have h1 := Ty.nums_le rks; have h2 := HRB.out; simp only [Ty.bulk] at h2; omega
    have HNB := hid hnb
    have hm2 := markTy_out rk rn rks arksg crksg Fg 1 vf (by have h1 := Ty.bulks_length rks; have h2 := HRB.out; simp only [Ty.bulk] at h2; omega) (by omega) HRG.out.partsTy HOG.out
    unfold MkPost at hm2
    obtain ⟨mm, hmm⟩ : ∃ mm, mm = 1 + D.nums (Ty.ds rks) := ⟨_, rfl⟩
    rw [← hmm, show ((1 : Nat) : Int) = 1 from rfl] at hm2
    have hmb : mm ≤ 1099511627776 := by omega
    have HMM := hid hmm
    clear hmm hnb
    have HM2 := hid hm2
    clear hm2
    go_wp2_with fail
    clear gg_0 gg_1 gg_2
    refine HM2.out.mono ?_
    rintro e kg ⟨rfl, hrd, hmk⟩
    have HB13 := hid (Mk.below HB12.out hmk (fun b hb => by have h1 := HO01.out; have h2 := HO12.out; have h3 := HO23.out; have h4 := LOG.out b hb; omega) HB12.out.size)
    have HV := hid (Mk.below HV.out hmk (fun b hb => by have h1 := HO01.out; have h2 := HO12.out; have h3 := HO23.out; have h4 := LOG.out b hb; simp; omega) HV.out.size)
    have HX13 := hid (Boxes.mk HX12.out hmk (fun q hq hy => by
      have h1 := HO01.out; have h2 := HO12.out; have h3 := HO23.out; have h4 := LOG.out q.1 hy
      simp only [List.mem_cons, List.not_mem_nil, or_false] at hq
      rcases hq with rfl | rfl | rfl | rfl <;> simp only at h4 <;> omega))
    have R_x := hid (R0_x.out.below HB13.out)
    have W_w := hid (W0.out.below HV.out)
    have HRM := hid (show RdL kg (D.marks 1 (Ty.ds rks)) (.slice arksg rks.length crksg) from ⟨Fg, hrd⟩)
    clear hmk hrd HRG HOG HM2
    have hh := heldTy rk rn rks arksg crksg 1 kg (by have := HNB.out; omega) HRM.out
    rw [← HMM.out, show ((1 : Nat) : Int) = 1 from rfl] at hh
    have HH := hid hh
    clear hh
    have hm0 : decide ((mm : Int) < 0) = false := decide_eq_false (by omega)
    have gg_0 := HX13.out.at 0 0 rfl rfl
    have gg_1 := HX13.out.at 0 1 rfl rfl
    have gg_2 := HX13.out.at 0 2 rfl rfl
    go_wp2_with fail
    clear gg_0 gg_1 gg_2
    refine HH.out.mono ?_
    rintro e kh ⟨rfl, hb⟩
    have HB14 := hid (HB13.out.trans (hb.mono HB13.out.size))
    have HX14 := hid (HX13.out.below hb)
    have R_x := hid (R_x.out.below hb)
    have W_w := hid (W_w.out.below hb)
    have HV := hid (HV.out.trans (hb.mono HV.out.size))
    have HRM := hid (HRM.out.below hb)
    clear HH hb
    have gw_0 := HX14.out.at 3 0 rfl rfl
    have gw_1 := HX14.out.at 3 1 rfl rfl
    have gw_2 := HX14.out.at 3 2 rfl rfl
    go_wp2_with fail
    clear gw_0 gw_1 gw_2
    refine (toTy k_x n_x ks_x aks_x cks_x _ HM_x.out ?_).mono ?_
    · exact R_x.out
    rintro e vh0 ⟨aks_xh, cks_xh, rfl, ho_xh, hb⟩
    have HB15 := hid (HB14.out.trans (hb.mono HB14.out.size))
    have HX15 := hid (HX14.out.below hb)
    have R_x := hid (R_x.out.below hb)
    have W_w := hid (W_w.out.below hb)
    have HV := hid (HV.out.trans (hb.mono HV.out.size))
    have HRM := hid (HRM.out.below hb)
    have C_xh := hid ho_xh.rd
    clear hb ho_xh
    go_wp2_with fail
    refine (impl_StripBangs _ _ _ _ _ _ ?_ ?_ HRES.out).mono ?_
    · exact HM_x.out
    · exact C_xh.out
    rintro e vh ⟨arksh, crksh, rfl, ho_h, hb⟩
    have HSZh := hid hb.size
    have HB16 := hid (HB15.out.trans (hb.mono HB15.out.size))
    have HX16 := hid (HX15.out.below hb)
    have R_x := hid (R_x.out.below hb)
    have W_w := hid (W_w.out.below hb)
    have HV := hid (HV.out.trans (hb.mono HV.out.size))
    have HRM := hid (HRM.out.below hb)
    have C_xh := hid (C_xh.out.below hb)
    have HRH := hid ho_h.rd
    clear hb ho_h C_xh HSZh hm0
    have hba : Below vh.heap.size vh (vh.alloc (.cells #[.int .i64 rk, .string rn, .slice arksh rks.length crksh] 28)) := (Below.refl _ _).alloc (Nat.le_refl _) _
    have HXa := hid (HX16.out.alloc #[.int .i64 rk, .string rn, .slice arksh rks.length crksh] 28 (0, 0))
    have HB17 := hid (HB16.out.trans (hba.mono HB16.out.size))
    have HX17 := hid (HX16.out.below hba)
    have R_x := hid (R_x.out.below hba)
    have W_w := hid (W_w.out.below hba)
    have HV := hid (HV.out.trans (hba.mono HV.out.size))
    have HRM := hid (HRM.out.below hba)
    have HRH := hid (HRH.out.below hba)
    clear hba
    have HX17 := HXa
    clear HXa
    have gh_0 := HX17.out.at 0 0 rfl rfl
    have gh_1 := HX17.out.at 0 1 rfl rfl
    have gh_2 := HX17.out.at 0 2 rfl rfl
    have gr_0 := HX17.out.at 3 0 rfl rfl
    have gr_1 := HX17.out.at 3 1 rfl rfl
    have gr_2 := HX17.out.at 3 2 rfl rfl
    go_wp2_with fail
    clear gh_0 gh_1 gh_2 gr_0 gr_1 gr_2
    refine (eqTy _ _ _ _ _ _ _ _ ?_ ?_).mono ?_
    · exact HRH.out
    · exact W_w.out
    rintro e vj ⟨rfl, hb⟩
    have HB18 := hid (HB17.out.trans (hb.mono HB17.out.size))
    have HX18 := hid (HX17.out.below hb)
    have R_x := hid (R_x.out.below hb)
    have W_w := hid (W_w.out.below hb)
    have HV := hid (HV.out.trans (hb.mono HV.out.size))
    have HRM := hid (HRM.out.below hb)
    have HRH := hid (HRH.out.below hb)
    clear hb
    have hh := heldTy rk rn rks arksg crksg 1 vj (by have := HNB.out; omega) HRM.out
    rw [← HMM.out, show ((1 : Nat) : Int) = 1 from rfl] at hh
    have HH := hid hh
    clear hh
    have hm0 : decide ((mm : Int) < 0) = false := decide_eq_false (by omega)
    have gg_0 := HX18.out.at 1 0 rfl rfl
    have gg_1 := HX18.out.at 1 1 rfl rfl
    have gg_2 := HX18.out.at 1 2 rfl rfl
    go_wp2_with fail
    clear gg_0 gg_1 gg_2
    refine HH.out.mono ?_
    rintro e kj ⟨rfl, hb⟩
    have HB19 := hid (HB18.out.trans (hb.mono HB18.out.size))
    have HX19 := hid (HX18.out.below hb)
    have R_x := hid (R_x.out.below hb)
    have W_w := hid (W_w.out.below hb)
    have HV := hid (HV.out.trans (hb.mono HV.out.size))
    have HRM := hid (HRM.out.below hb)
    have HRH := hid (HRH.out.below hb)
    clear HH hb
    go_wp2_with fail
    go_ret
    exact ⟨rfl, HB19.out⟩

set_option maxRecDepth 100000 in
theorem FnExactStripBangs_lifted (os : Os) (started : os.Started) (H : Type) (enc : TypeId × Value → H) :
    ReturnsInHanded {} Try.checked os 4 .any (Rows.fnExactStripBangsSpec.pre6 enc Try.prog Try.f4 Rows.fnExactStripBangsRow.domain false) (Rows.fnExactStripBangsSpec.post enc Try.prog Try.f4 false true false false) := by
  refine law_lifted (C := Try.checked) (tb := 4) own started (by kernel_rfl) Try.func4 laidOut (by intro t ht; rw [Try.params4] at ht; simp at ht; subst ht; exact ⟨by kernel_rfl, of_decide_eq_true (by kernel_rfl)⟩) rfl Try.underlying4 rfl ?_
    (ChangeSpec.witness6 (enc := enc) (C := Try.checked) false ⟨#[], #[.agg #[.int .i64 0, .string ⟨#[]⟩, .slice none 0 0]], []⟩ 8 (by kernel_rfl) (by kernel_rfl) (by kernel_rfl) (by kernel_rfl)) ?_
  · intro ds hds
    rw [Try.params4] at hds
    match ds, hds with
    | [_], _ => exact ⟨rfl, rfl, rfl⟩
  intro W base args ds p hval0 hA0 hlt
  have hval : ∀ (j : Nat) t v, Try.f4.params[j]? = some t → args[j]? = some v → Value.okWide Try.prog W .any base t v := hval0
  have hA : DataW.TrodAll enc Try.prog W 0 (fun _ => true) true Try.f4.params.toList args.toList ds p := hA0
  rw [Try.params4] at hA hval
  clear hval0 hA0
  obtain ⟨v0, vs0, d0, ds0, p0, q0, hargs0, rfl, rfl, h0, r0⟩ := trodAll_cons hA
  obtain ⟨rfl, rfl, rfl⟩ := trodAll_nil r0
  obtain rfl : args = #[v0] := by cases args; simp_all
  obtain ⟨k_x, n_x, ks_x, aks_x, cks_x, rfl, hr_x⟩ := arg_Ty (hval 0 24 v0 rfl rfl) h0
  exact FnExactStripBangs_walk k_x n_x ks_x aks_x cks_x W hr_x

theorem FnExactStripBangs_holds : Rows.FnExactStripBangsSaid :=
  OpenClaim.holds_of_wide 4 Try.f4 rfl rfl rfl rfl rfl rfl rfl ⟨rfl, rfl, rfl, rfl, rfl⟩ rfl rfl rfl rfl rfl (by kernel_rfl) Try.func4 (by kernel_rfl)
    (of_decide_eq_true (by kernel_rfl)) (by unfold Func.isWrapper; first | (rw [if_pos (by decide +kernel)]; kernel_rfl) | (rw [if_neg (by decide +kernel)]; exact ⟨rfl, rfl⟩))
    (fun os started H enc _ => FnExactStripBangs_lifted os started H enc)
end Go.Proofs.Ytgpefnlpbjnjbaa
