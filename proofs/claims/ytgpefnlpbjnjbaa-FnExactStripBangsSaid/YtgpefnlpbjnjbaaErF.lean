/- Walks: EraseType, whole, in both. No condition. -/
import Derived.Test.YtgpefnlpbjnjbaaErS
import Derived.Test.YtgpefnlpbjnjbaaErI
import Derived.Test.YtgpefnlpbjnjbaaTyOk
import Derived.Test.YtgpefnlpbjnjbaaTyShape
import Derived.Test.YtgpefnlpbjnjbaaMkVTy
namespace Go.Proofs.Ytgpefnlpbjnjbaa
open Go.ChangeShapes Go.WideShapes Go.ChangeAt Go.RowKit
open Go.Sort (grow)
set_option linter.unusedVariables false

theorem Rd.partsTy {w : World} {k : Int} {n : ByteArray} {ks : List Ty} {aks : Option Addr} {cks : Nat} {F : List Nat} (h : Rd w (Ty.d (Ty.mk k n ks)) [.int .i64 k, .string n, .slice aks ks.length cks] F) : Rd w (.list (Ty.ds ks)) [.slice aks ks.length cks] F := by
  obtain ⟨P, rfl, p⟩ := h.parts_Ty
  exact p
theorem Ty.ok_good {t : Ty} (h : Ty.ok t = true) : Ty.good t = true := by
  simp only [Ty.ok, Bool.and_eq_true] at h
  exact h.1
set_option maxRecDepth 100000 in
theorem spec_EraseType (k1 : Int) (n1 : ByteArray) (ks1 : List Ty) (aks1 : Option Addr) (cks1 : Nat) (w : World) (hM : Ty.bulk (Ty.mk k1 n1 ks1) ≤ 1048576) (hr : RdS w (Ty.d (Ty.mk k1 n1 ks1)) [.int .i64 k1, .string n1, .slice aks1 ks1.length cks1]) {rk : Int} {rn : ByteArray} {rks : List Ty} (he : eraseN (Ty.mk k1 n1 ks1) = Ty.mk rk rn rks) :
    Calls Try.prog 10 #[.agg #[.int .i64 k1, .string n1, .slice aks1 ks1.length cks1]] w (GivesTy rk rn rks w) := by
  have hA := alloc2 w (.cells #[.int .i64 k1, .string n1, .slice aks1 ks1.length cks1] 28) (.cells #[.int .i64 0, .string ⟨#[]⟩, .slice none 0 0] 28)
  have HA1 := hid hA.1
  have HA2 := hid hA.2.1
  have HA3 := hid hA.2.2.1
  have HAB := hid hA.2.2.2
  have hc := spec_ValidType k1 n1 ks1 aks1 cks1 _ hM (hr.below hA.2.2.2)
  have HC := hid hc
  have HR := hid (hr.below hA.2.2.2)
  have HM := hid hM
  clear hA hc hr hM
  by_cases hok : Ty.ok (Ty.mk k1 n1 ks1) = true
  case neg =>
    have hf := (Bool.not_eq_true _).mp hok
    rw [hf] at HC
    have hz : Ty.mk rk rn rks = noTy := he.symm.trans (eraseN_no hf)
    simp only [noTy, Ty.mk.injEq] at hz
    obtain ⟨rfl, rfl, rfl⟩ := hz
    clear hf hok he
    go_enter Try.func10, Try.ntmps10
    go_wp2_with fail
    refine HC.out.mono ?_
    rintro e w1 ⟨rfl, hb⟩
    have HX := hid ((hb.block _ (Array.getElem?_eq_some_iff.1 HA2.out).1).trans HA2.out)
    have HB := hid (HAB.out.trans (hb.mono HAB.out.size))
    have z0 := heap_free HX.out 0
    have z1 := heap_free HX.out 1
    have z2 := heap_free HX.out 2
    have r0 := heap_cell HX.out (j := 0) rfl
    have r1 := heap_cell HX.out (j := 1) rfl
    have r2 := heap_cell HX.out (j := 2) rfl
    have HS := hid (set3 HX.out (.int .i64 0) (.string ⟨#[]⟩) (.slice none 0 0))
    clear hb
    go_wp2_with fail
    have hc0 := heap_cell HS.out (j := 0) rfl
    have hc1 := heap_cell HS.out (j := 1) rfl
    have hc2 := heap_cell HS.out (j := 2) rfl
    refine bodyPost_ret (v := .agg #[.int .i64 0, .string ⟨#[]⟩, .slice none 0 0]) (by simp [results, Try.results10, go_sem, hc0, hc1, hc2]) rfl ?_
    refine ⟨none, 0, rfl, ?_, ((HB.out.setCell (by simp) _).setCell (by simp) _).setCell (by simp) _⟩
    exact Ty.own_mk (ks := []) (by omega) (by omega) (by decide) ⟨[], Rd.nil_mk (by omega), Owned.nil _ _⟩
  case pos =>
    rw [hok] at HC
    have HG := hid (Ty.ok_good hok)
    have HE := hid ((eraseN_yes hok).symm.trans he)
    clear hok he
    go_enter Try.func10, Try.ntmps10
    go_wp2_with fail
    refine HC.out.mono ?_
    rintro e w1 ⟨rfl, hb⟩
    have HX0 := hid ((hb.block _ (Array.getElem?_eq_some_iff.1 HA1.out).1).trans HA1.out)
    have HX := hid ((hb.block _ (Array.getElem?_eq_some_iff.1 HA2.out).1).trans HA2.out)
    have HB := hid (HAB.out.trans (hb.mono HAB.out.size))
    have HI := hid (spec_l02Erase k1 n1 ks1 aks1 cks1 w1 HM.out HG.out (HR.out.below hb))
    have b0 := heap_cell HX0.out (j := 0) rfl
    have b1 := heap_cell HX0.out (j := 1) rfl
    have b2 := heap_cell HX0.out (j := 2) rfl
    have HLW := hid (show w.heap.size + 2 ≤ w1.heap.size by have := hb.size; have := HA3.out; omega)
    clear hb
    go_wp2_with fail
    refine HI.out.mono ?_
    rw [HE.out]
    rintro e w2 ⟨a5, c5, rfl, ho5, hb5⟩
    have HX2 := hid ((hb5.block _ (Array.getElem?_eq_some_iff.1 HX.out).1).trans HX.out)
    have HB2 := hid (HB.out.trans (hb5.mono HB.out.size))
    have HO5 := hid ho5
    have z0 := heap_free HX2.out 0
    have z1 := heap_free HX2.out 1
    have z2 := heap_free HX2.out 2
    have r0 := heap_cell HX2.out (j := 0) rfl
    have r1 := heap_cell HX2.out (j := 1) rfl
    have r2 := heap_cell HX2.out (j := 2) rfl
    have HS := hid (set3 HX2.out (.int .i64 rk) (.string rn) (.slice a5 rks.length c5))
    clear hb5 ho5 b0 b1 b2 HI
    go_wp2_with fail
    have hc0 := heap_cell HS.out (j := 0) rfl
    have hc1 := heap_cell HS.out (j := 1) rfl
    have hc2 := heap_cell HS.out (j := 2) rfl
    refine bodyPost_ret (v := .agg #[.int .i64 rk, .string rn, .slice a5 rks.length c5]) (by simp [results, Try.results10, go_sem, hc0, hc1, hc2]) rfl ?_
    refine ⟨a5, c5, rfl, ?_, ((HB2.out.setCell (by simp) _).setCell (by simp) _).setCell (by simp) _⟩
    exact OwnS.mono (OwnS.keep HO5.out fun x hx _ => set3_ne _ _ _ (by have := HLW.out; omega)) (by have := HLW.out; omega)
set_option maxRecDepth 100000 in
theorem impl_EraseType (k1 : Int) (n1 : ByteArray) (ks1 : List Ty) (aks1 : Option Addr) (cks1 : Nat) (w : World) (hM : Ty.bulk (Ty.mk k1 n1 ks1) ≤ 1048576) (hr : RdS w (Ty.d (Ty.mk k1 n1 ks1)) [.int .i64 k1, .string n1, .slice aks1 ks1.length cks1]) {rk : Int} {rn : ByteArray} {rks : List Ty} (he : eraseN (Ty.mk k1 n1 ks1) = Ty.mk rk rn rks) :
    Calls Try.prog 12 #[.agg #[.int .i64 k1, .string n1, .slice aks1 ks1.length cks1]] w (GivesTy rk rn rks w) := by
  have hA := alloc2 w (.cells #[.int .i64 k1, .string n1, .slice aks1 ks1.length cks1] 28) (.cells #[.int .i64 0, .string ⟨#[]⟩, .slice none 0 0] 28)
  have HA1 := hid hA.1
  have HA2 := hid hA.2.1
  have HA3 := hid hA.2.2.1
  have HAB := hid hA.2.2.2
  have hc := impl_ValidType k1 n1 ks1 aks1 cks1 _ hM (hr.below hA.2.2.2)
  have HC := hid hc
  have HR := hid (hr.below hA.2.2.2)
  have HM := hid hM
  clear hA hc hr hM
  by_cases hok : Ty.ok (Ty.mk k1 n1 ks1) = true
  case neg =>
    have hf := (Bool.not_eq_true _).mp hok
    rw [hf] at HC
    have hz : Ty.mk rk rn rks = noTy := he.symm.trans (eraseN_no hf)
    simp only [noTy, Ty.mk.injEq] at hz
    obtain ⟨rfl, rfl, rfl⟩ := hz
    clear hf hok he
    go_enter Try.func12, Try.ntmps12
    go_wp2_with fail
    refine HC.out.mono ?_
    rintro e w1 ⟨rfl, hb⟩
    have HX := hid ((hb.block _ (Array.getElem?_eq_some_iff.1 HA2.out).1).trans HA2.out)
    have HB := hid (HAB.out.trans (hb.mono HAB.out.size))
    have z0 := heap_free HX.out 0
    have z1 := heap_free HX.out 1
    have z2 := heap_free HX.out 2
    have r0 := heap_cell HX.out (j := 0) rfl
    have r1 := heap_cell HX.out (j := 1) rfl
    have r2 := heap_cell HX.out (j := 2) rfl
    have HS := hid (set3 HX.out (.int .i64 0) (.string ⟨#[]⟩) (.slice none 0 0))
    clear hb
    go_wp2_with fail
    have hc0 := heap_cell HS.out (j := 0) rfl
    have hc1 := heap_cell HS.out (j := 1) rfl
    have hc2 := heap_cell HS.out (j := 2) rfl
    refine bodyPost_ret (v := .agg #[.int .i64 0, .string ⟨#[]⟩, .slice none 0 0]) (by simp [results, Try.results12, go_sem, hc0, hc1, hc2]) rfl ?_
    refine ⟨none, 0, rfl, ?_, ((HB.out.setCell (by simp) _).setCell (by simp) _).setCell (by simp) _⟩
    exact Ty.own_mk (ks := []) (by omega) (by omega) (by decide) ⟨[], Rd.nil_mk (by omega), Owned.nil _ _⟩
  case pos =>
    rw [hok] at HC
    have HG := hid (Ty.ok_good hok)
    have HE := hid ((eraseN_yes hok).symm.trans he)
    clear hok he
    go_enter Try.func12, Try.ntmps12
    go_wp2_with fail
    refine HC.out.mono ?_
    rintro e w1 ⟨rfl, hb⟩
    have HX0 := hid ((hb.block _ (Array.getElem?_eq_some_iff.1 HA1.out).1).trans HA1.out)
    have HX := hid ((hb.block _ (Array.getElem?_eq_some_iff.1 HA2.out).1).trans HA2.out)
    have HB := hid (HAB.out.trans (hb.mono HAB.out.size))
    have HI := hid (impl_eraseType k1 n1 ks1 aks1 cks1 w1 HM.out HG.out (HR.out.below hb))
    have b0 := heap_cell HX0.out (j := 0) rfl
    have b1 := heap_cell HX0.out (j := 1) rfl
    have b2 := heap_cell HX0.out (j := 2) rfl
    have HLW := hid (show w.heap.size + 2 ≤ w1.heap.size by have := hb.size; have := HA3.out; omega)
    clear hb
    go_wp2_with fail
    refine HI.out.mono ?_
    rw [HE.out]
    rintro e w2 ⟨a5, c5, rfl, ho5, hb5⟩
    have HX2 := hid ((hb5.block _ (Array.getElem?_eq_some_iff.1 HX.out).1).trans HX.out)
    have HB2 := hid (HB.out.trans (hb5.mono HB.out.size))
    have HO5 := hid ho5
    have z0 := heap_free HX2.out 0
    have z1 := heap_free HX2.out 1
    have z2 := heap_free HX2.out 2
    have r0 := heap_cell HX2.out (j := 0) rfl
    have r1 := heap_cell HX2.out (j := 1) rfl
    have r2 := heap_cell HX2.out (j := 2) rfl
    have HS := hid (set3 HX2.out (.int .i64 rk) (.string rn) (.slice a5 rks.length c5))
    clear hb5 ho5 b0 b1 b2 HI
    go_wp2_with fail
    have hc0 := heap_cell HS.out (j := 0) rfl
    have hc1 := heap_cell HS.out (j := 1) rfl
    have hc2 := heap_cell HS.out (j := 2) rfl
    refine bodyPost_ret (v := .agg #[.int .i64 rk, .string rn, .slice a5 rks.length c5]) (by simp [results, Try.results12, go_sem, hc0, hc1, hc2]) rfl ?_
    refine ⟨a5, c5, rfl, ?_, ((HB2.out.setCell (by simp) _).setCell (by simp) _).setCell (by simp) _⟩
    exact OwnS.mono (OwnS.keep HO5.out fun x hx _ => set3_ne _ _ _ (by have := HLW.out; omega)) (by have := HLW.out; omega)
end Go.Proofs.Ytgpefnlpbjnjbaa
