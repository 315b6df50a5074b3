/- Walks: AlphaSame, whole, in both. No condition. -/
import Derived.Test.YtgpefnlpbjnjbaaAlS
import Derived.Test.YtgpefnlpbjnjbaaAlI
namespace Go.Proofs.Ytgpefnlpbjnjbaa
open Go.ChangeShapes Go.WideShapes Go.ChangeAt Go.RowKit Go.BigFrame
open Go.Sort (grow)
set_option linter.unusedVariables false

set_option maxRecDepth 100000 in
set_option maxHeartbeats 4000000 in
theorem spec_AlphaSame (k1 : Int) (u1 : Int) (n1 : ByteArray) (tk1 : Int) (tn1 : ByteArray) (tks1 : List Ty) (ns1 : List ByteArray) (ks1 : List Tm) (atks1 : Option Addr) (ctks1 : Nat) (ans1 : Option Addr) (cns1 : Nat) (aks1 : Option Addr) (cks1 : Nat) (k2 : Int) (u2 : Int) (n2 : ByteArray) (tk2 : Int) (tn2 : ByteArray) (tks2 : List Ty) (ns2 : List ByteArray) (ks2 : List Tm) (atks2 : Option Addr) (ctks2 : Nat) (ans2 : Option Addr) (cns2 : Nat) (aks2 : Option Addr) (cks2 : Nat) (w : World) (hM : Tm.bulk (Tm.mk k1 u1 n1 (Ty.mk tk1 tn1 tks1) ns1 ks1) ≤ 1048576) (hM2 : Tm.bulk (Tm.mk k2 u2 n2 (Ty.mk tk2 tn2 tks2) ns2 ks2) ≤ 1048576) (hr : RdS w (Tm.d (Tm.mk k1 u1 n1 (Ty.mk tk1 tn1 tks1) ns1 ks1)) [.int .i64 k1, .int .i64 u1, .string n1, .int .i64 tk1, .string tn1, .slice atks1 tks1.length ctks1, .slice ans1 ns1.length cns1, .slice aks1 ks1.length cks1]) (hr' : RdS w (Tm.d (Tm.mk k2 u2 n2 (Ty.mk tk2 tn2 tks2) ns2 ks2)) [.int .i64 k2, .int .i64 u2, .string n2, .int .i64 tk2, .string tn2, .slice atks2 tks2.length ctks2, .slice ans2 ns2.length cns2, .slice aks2 ks2.length cks2]) :
    Calls Try.prog 28 #[.agg #[.int .i64 k1, .int .i64 u1, .string n1, .int .i64 tk1, .string tn1, .slice atks1 tks1.length ctks1, .slice ans1 ns1.length cns1, .slice aks1 ks1.length cks1], .agg #[.int .i64 k2, .int .i64 u2, .string n2, .int .i64 tk2, .string tn2, .slice atks2 tks2.length ctks2, .slice ans2 ns2.length cns2, .slice aks2 ks2.length cks2]] w fun e w' => e = .returned (.bool (alphaN (Tm.mk k1 u1 n1 (Ty.mk tk1 tn1 tks1) ns1 ks1) (Tm.mk k2 u2 n2 (Ty.mk tk2 tn2 tks2) ns2 ks2))) ∧ Below w.heap.size w w' := by
  have hbx := boxes2 w (.cells #[.int .i64 k1, .int .i64 u1, .string n1, .int .i64 tk1, .string tn1, .slice atks1 tks1.length ctks1, .slice ans1 ns1.length cns1, .slice aks1 ks1.length cks1] 55) (.cells #[.int .i64 k2, .int .i64 u2, .string n2, .int .i64 tk2, .string tn2, .slice atks2 tks2.length ctks2, .slice ans2 ns2.length cns2, .slice aks2 ks2.length cks2] 55)
  have HX0 := hid hbx.1
  have HX1 := hid hbx.2.1
  have HBX := hid hbx.2.2.2
  have hc1 := fun (W : World) (hW : Below ((w.alloc (.cells #[.int .i64 k1, .int .i64 u1, .string n1, .int .i64 tk1, .string tn1, .slice atks1 tks1.length ctks1, .slice ans1 ns1.length cns1, .slice aks1 ks1.length cks1] 55)).alloc (.cells #[.int .i64 k2, .int .i64 u2, .string n2, .int .i64 tk2, .string tn2, .slice atks2 tks2.length ctks2, .slice ans2 ns2.length cns2, .slice aks2 ks2.length cks2] 55)).heap.size ((w.alloc (.cells #[.int .i64 k1, .int .i64 u1, .string n1, .int .i64 tk1, .string tn1, .slice atks1 tks1.length ctks1, .slice ans1 ns1.length cns1, .slice aks1 ks1.length cks1] 55)).alloc (.cells #[.int .i64 k2, .int .i64 u2, .string n2, .int .i64 tk2, .string tn2, .slice atks2 tks2.length ctks2, .slice ans2 ns2.length cns2, .slice aks2 ks2.length cks2] 55)) W) => spec_l03Ok k1 u1 n1 tk1 tn1 tks1 ns1 ks1 atks1 ctks1 ans1 cns1 aks1 cks1 w.heap.size 0 W hM (heap_cell (heap_lift hbx.1 hW) (j := 0) rfl) (heap_cell (heap_lift hbx.1 hW) (j := 1) rfl) (heap_cell (heap_lift hbx.1 hW) (j := 2) rfl) (heap_cell (heap_lift hbx.1 hW) (j := 3) rfl) (heap_cell (heap_lift hbx.1 hW) (j := 4) rfl) (heap_cell (heap_lift hbx.1 hW) (j := 5) rfl) (heap_cell (heap_lift hbx.1 hW) (j := 6) rfl) (heap_cell (heap_lift hbx.1 hW) (j := 7) rfl) (hr.below (hbx.2.2.2.trans (hW.mono hbx.2.2.2.size)))
  have hc2 := fun (W : World) (hW : Below ((w.alloc (.cells #[.int .i64 k1, .int .i64 u1, .string n1, .int .i64 tk1, .string tn1, .slice atks1 tks1.length ctks1, .slice ans1 ns1.length cns1, .slice aks1 ks1.length cks1] 55)).alloc (.cells #[.int .i64 k2, .int .i64 u2, .string n2, .int .i64 tk2, .string tn2, .slice atks2 tks2.length ctks2, .slice ans2 ns2.length cns2, .slice aks2 ks2.length cks2] 55)).heap.size ((w.alloc (.cells #[.int .i64 k1, .int .i64 u1, .string n1, .int .i64 tk1, .string tn1, .slice atks1 tks1.length ctks1, .slice ans1 ns1.length cns1, .slice aks1 ks1.length cks1] 55)).alloc (.cells #[.int .i64 k2, .int .i64 u2, .string n2, .int .i64 tk2, .string tn2, .slice atks2 tks2.length ctks2, .slice ans2 ns2.length cns2, .slice aks2 ks2.length cks2] 55)) W) => spec_l03Ok k2 u2 n2 tk2 tn2 tks2 ns2 ks2 atks2 ctks2 ans2 cns2 aks2 cks2 (w.heap.size + 1) 0 W hM2 (heap_cell (heap_lift hbx.2.1 hW) (j := 0) rfl) (heap_cell (heap_lift hbx.2.1 hW) (j := 1) rfl) (heap_cell (heap_lift hbx.2.1 hW) (j := 2) rfl) (heap_cell (heap_lift hbx.2.1 hW) (j := 3) rfl) (heap_cell (heap_lift hbx.2.1 hW) (j := 4) rfl) (heap_cell (heap_lift hbx.2.1 hW) (j := 5) rfl) (heap_cell (heap_lift hbx.2.1 hW) (j := 6) rfl) (heap_cell (heap_lift hbx.2.1 hW) (j := 7) rfl) (hr'.below (hbx.2.2.2.trans (hW.mono hbx.2.2.2.size)))
  have hc3 := fun (W : World) (hW : Below ((w.alloc (.cells #[.int .i64 k1, .int .i64 u1, .string n1, .int .i64 tk1, .string tn1, .slice atks1 tks1.length ctks1, .slice ans1 ns1.length cns1, .slice aks1 ks1.length cks1] 55)).alloc (.cells #[.int .i64 k2, .int .i64 u2, .string n2, .int .i64 tk2, .string tn2, .slice atks2 tks2.length ctks2, .slice ans2 ns2.length cns2, .slice aks2 ks2.length cks2] 55)).heap.size ((w.alloc (.cells #[.int .i64 k1, .int .i64 u1, .string n1, .int .i64 tk1, .string tn1, .slice atks1 tks1.length ctks1, .slice ans1 ns1.length cns1, .slice aks1 ks1.length cks1] 55)).alloc (.cells #[.int .i64 k2, .int .i64 u2, .string n2, .int .i64 tk2, .string tn2, .slice atks2 tks2.length ctks2, .slice ans2 ns2.length cns2, .slice aks2 ks2.length cks2] 55)) W) => l03Alpha_all (Tm.bulk (Tm.mk k1 u1 n1 (Ty.mk tk1 tn1 tks1) ns1 ks1) + 1) k1 u1 n1 tk1 tn1 tks1 ns1 ks1 atks1 ctks1 ans1 cns1 aks1 cks1 k2 u2 n2 tk2 tn2 tks2 ns2 ks2 atks2 ctks2 ans2 cns2 aks2 cks2 w.heap.size 0 (w.heap.size + 1) 0 [] [] _ _ W (by omega) hM hM2 (by simp; omega) (by simp; omega) (heap_cell (heap_lift hbx.1 hW) (j := 0) rfl) (heap_cell (heap_lift hbx.1 hW) (j := 1) rfl) (heap_cell (heap_lift hbx.1 hW) (j := 2) rfl) (heap_cell (heap_lift hbx.1 hW) (j := 3) rfl) (heap_cell (heap_lift hbx.1 hW) (j := 4) rfl) (heap_cell (heap_lift hbx.1 hW) (j := 5) rfl) (heap_cell (heap_lift hbx.1 hW) (j := 6) rfl) (heap_cell (heap_lift hbx.1 hW) (j := 7) rfl) (heap_cell (heap_lift hbx.2.1 hW) (j := 0) rfl) (heap_cell (heap_lift hbx.2.1 hW) (j := 1) rfl) (heap_cell (heap_lift hbx.2.1 hW) (j := 2) rfl) (heap_cell (heap_lift hbx.2.1 hW) (j := 3) rfl) (heap_cell (heap_lift hbx.2.1 hW) (j := 4) rfl) (heap_cell (heap_lift hbx.2.1 hW) (j := 5) rfl) (heap_cell (heap_lift hbx.2.1 hW) (j := 6) rfl) (heap_cell (heap_lift hbx.2.1 hW) (j := 7) rfl) (hr.below (hbx.2.2.2.trans (hW.mono hbx.2.2.2.size))) (hr'.below (hbx.2.2.2.trans (hW.mono hbx.2.2.2.size))) (StrsL.nil W) (StrsL.nil W)
  clear hbx
  by_cases h1 : Tm.ok (Tm.mk k1 u1 n1 (Ty.mk tk1 tn1 tks1) ns1 ks1) = true
  case neg =>
    have hf := (Bool.not_eq_true _).mp h1
    rw [hf] at hc1
    have HE := hid (alphaN_a (Tm.mk k2 u2 n2 (Ty.mk tk2 tn2 tks2) ns2 ks2) hf)
    have HC1 := hid hc1
    clear hc1 hc2 hc3 h1 hf hM hM2 hr hr'
    have HX0_0 := HX0
    have HX1_0 := HX1
    go_enter Try.func28, Try.ntmps28
    go_wp2_with fail
    refine (HC1.out _ (Below.refl _ _)).mono ?_
    rintro e w1 ⟨rfl, hb⟩
    have HB1 := hid hb
    have HX0_1 := hid (heap_lift HX0.out HB1.out)
    have HX1_1 := hid (heap_lift HX1.out HB1.out)
    clear hb
    go_wp2_with fail
    go_ret
    exact ⟨ret_bool HE.out.symm, HBX.out.trans (HB1.out.mono HBX.out.size)⟩
  case pos =>
  rw [h1] at hc1
  have HC1 := hid hc1
  by_cases h2 : Tm.ok (Tm.mk k2 u2 n2 (Ty.mk tk2 tn2 tks2) ns2 ks2) = true
  case neg =>
    have hf := (Bool.not_eq_true _).mp h2
    rw [hf] at hc2
    have HE := hid (alphaN_b h1 hf)
    have HC2 := hid hc2
    clear hc1 hc2 hc3 h1 h2 hf hM hM2 hr hr'
    have HX0_0 := HX0
    have HX1_0 := HX1
    go_enter Try.func28, Try.ntmps28
    go_wp2_with fail
    refine (HC1.out _ (Below.refl _ _)).mono ?_
    rintro e w1 ⟨rfl, hb⟩
    have HB1 := hid hb
    have HX0_1 := hid (heap_lift HX0.out HB1.out)
    have HX1_1 := hid (heap_lift HX1.out HB1.out)
    clear hb
    go_wp2_with fail
    refine (HC2.out _ (HB1.out)).mono ?_
    rintro e w2 ⟨rfl, hb⟩
    have HB2 := hid (HB1.out.trans (hb.mono HB1.out.size))
    have HX0_2 := hid (heap_lift HX0.out HB2.out)
    have HX1_2 := hid (heap_lift HX1.out HB2.out)
    clear hb
    go_wp2_with fail
    go_ret
    exact ⟨ret_bool HE.out.symm, HBX.out.trans (HB2.out.mono HBX.out.size)⟩
  case pos =>
  rw [h2] at hc2
  have HC2 := hid hc2
  have HE := hid (alphaN_y h1 h2)
  generalize Tm.alpha (Tm.mk k1 u1 n1 (Ty.mk tk1 tn1 tks1) ns1 ks1) (Tm.mk k2 u2 n2 (Ty.mk tk2 tn2 tks2) ns2 ks2) [] [] = r at HE hc3
  have HC3 := hid hc3
  clear hc1 hc2 hc3 h1 h2 hM hM2 hr hr'
  have HX0_0 := HX0
  have HX1_0 := HX1
  go_enter Try.func28, Try.ntmps28
  go_wp2_with fail
  refine (HC1.out _ (Below.refl _ _)).mono ?_
  rintro e w1 ⟨rfl, hb⟩
  have HB1 := hid hb
  have HX0_1 := hid (heap_lift HX0.out HB1.out)
  have HX1_1 := hid (heap_lift HX1.out HB1.out)
  clear hb
  go_wp2_with fail
  refine (HC2.out _ (HB1.out)).mono ?_
  rintro e w2 ⟨rfl, hb⟩
  have HB2 := hid (HB1.out.trans (hb.mono HB1.out.size))
  have HX0_2 := hid (heap_lift HX0.out HB2.out)
  have HX1_2 := hid (heap_lift HX1.out HB2.out)
  clear hb
  go_wp2_with fail
  refine (HC3.out _ (HB2.out)).mono ?_
  rintro e w3 ⟨rfl, hb⟩
  have HB3 := hid (HB2.out.trans (hb.mono HB2.out.size))
  have HX0_3 := hid (heap_lift HX0.out HB3.out)
  have HX1_3 := hid (heap_lift HX1.out HB3.out)
  clear hb
  go_wp2_with fail
  go_ret
  exact ⟨ret_bool HE.out.symm, HBX.out.trans (HB3.out.mono HBX.out.size)⟩
set_option maxRecDepth 100000 in
set_option maxHeartbeats 4000000 in
theorem impl_AlphaSame (k1 : Int) (u1 : Int) (n1 : ByteArray) (tk1 : Int) (tn1 : ByteArray) (tks1 : List Ty) (ns1 : List ByteArray) (ks1 : List Tm) (atks1 : Option Addr) (ctks1 : Nat) (ans1 : Option Addr) (cns1 : Nat) (aks1 : Option Addr) (cks1 : Nat) (k2 : Int) (u2 : Int) (n2 : ByteArray) (tk2 : Int) (tn2 : ByteArray) (tks2 : List Ty) (ns2 : List ByteArray) (ks2 : List Tm) (atks2 : Option Addr) (ctks2 : Nat) (ans2 : Option Addr) (cns2 : Nat) (aks2 : Option Addr) (cks2 : Nat) (w : World) (hM : Tm.bulk (Tm.mk k1 u1 n1 (Ty.mk tk1 tn1 tks1) ns1 ks1) ≤ 1048576) (hM2 : Tm.bulk (Tm.mk k2 u2 n2 (Ty.mk tk2 tn2 tks2) ns2 ks2) ≤ 1048576) (hr : RdS w (Tm.d (Tm.mk k1 u1 n1 (Ty.mk tk1 tn1 tks1) ns1 ks1)) [.int .i64 k1, .int .i64 u1, .string n1, .int .i64 tk1, .string tn1, .slice atks1 tks1.length ctks1, .slice ans1 ns1.length cns1, .slice aks1 ks1.length cks1]) (hr' : RdS w (Tm.d (Tm.mk k2 u2 n2 (Ty.mk tk2 tn2 tks2) ns2 ks2)) [.int .i64 k2, .int .i64 u2, .string n2, .int .i64 tk2, .string tn2, .slice atks2 tks2.length ctks2, .slice ans2 ns2.length cns2, .slice aks2 ks2.length cks2]) :
    Calls Try.prog 30 #[.agg #[.int .i64 k1, .int .i64 u1, .string n1, .int .i64 tk1, .string tn1, .slice atks1 tks1.length ctks1, .slice ans1 ns1.length cns1, .slice aks1 ks1.length cks1], .agg #[.int .i64 k2, .int .i64 u2, .string n2, .int .i64 tk2, .string tn2, .slice atks2 tks2.length ctks2, .slice ans2 ns2.length cns2, .slice aks2 ks2.length cks2]] w fun e w' => e = .returned (.bool (alphaN (Tm.mk k1 u1 n1 (Ty.mk tk1 tn1 tks1) ns1 ks1) (Tm.mk k2 u2 n2 (Ty.mk tk2 tn2 tks2) ns2 ks2))) ∧ Below w.heap.size w w' := by
  have hbx := boxes2 w (.cells #[.int .i64 k1, .int .i64 u1, .string n1, .int .i64 tk1, .string tn1, .slice atks1 tks1.length ctks1, .slice ans1 ns1.length cns1, .slice aks1 ks1.length cks1] 55) (.cells #[.int .i64 k2, .int .i64 u2, .string n2, .int .i64 tk2, .string tn2, .slice atks2 tks2.length ctks2, .slice ans2 ns2.length cns2, .slice aks2 ks2.length cks2] 55)
  have HX0 := hid hbx.1
  have HX1 := hid hbx.2.1
  have HBX := hid hbx.2.2.2
  have hc1 := fun (W : World) (hW : Below ((w.alloc (.cells #[.int .i64 k1, .int .i64 u1, .string n1, .int .i64 tk1, .string tn1, .slice atks1 tks1.length ctks1, .slice ans1 ns1.length cns1, .slice aks1 ks1.length cks1] 55)).alloc (.cells #[.int .i64 k2, .int .i64 u2, .string n2, .int .i64 tk2, .string tn2, .slice atks2 tks2.length ctks2, .slice ans2 ns2.length cns2, .slice aks2 ks2.length cks2] 55)).heap.size ((w.alloc (.cells #[.int .i64 k1, .int .i64 u1, .string n1, .int .i64 tk1, .string tn1, .slice atks1 tks1.length ctks1, .slice ans1 ns1.length cns1, .slice aks1 ks1.length cks1] 55)).alloc (.cells #[.int .i64 k2, .int .i64 u2, .string n2, .int .i64 tk2, .string tn2, .slice atks2 tks2.length ctks2, .slice ans2 ns2.length cns2, .slice aks2 ks2.length cks2] 55)) W) => impl_ValidTerm k1 u1 n1 tk1 tn1 tks1 ns1 ks1 atks1 ctks1 ans1 cns1 aks1 cks1  W hM  (hr.below (hbx.2.2.2.trans (hW.mono hbx.2.2.2.size)))
  have hc2 := fun (W : World) (hW : Below ((w.alloc (.cells #[.int .i64 k1, .int .i64 u1, .string n1, .int .i64 tk1, .string tn1, .slice atks1 tks1.length ctks1, .slice ans1 ns1.length cns1, .slice aks1 ks1.length cks1] 55)).alloc (.cells #[.int .i64 k2, .int .i64 u2, .string n2, .int .i64 tk2, .string tn2, .slice atks2 tks2.length ctks2, .slice ans2 ns2.length cns2, .slice aks2 ks2.length cks2] 55)).heap.size ((w.alloc (.cells #[.int .i64 k1, .int .i64 u1, .string n1, .int .i64 tk1, .string tn1, .slice atks1 tks1.length ctks1, .slice ans1 ns1.length cns1, .slice aks1 ks1.length cks1] 55)).alloc (.cells #[.int .i64 k2, .int .i64 u2, .string n2, .int .i64 tk2, .string tn2, .slice atks2 tks2.length ctks2, .slice ans2 ns2.length cns2, .slice aks2 ks2.length cks2] 55)) W) => impl_ValidTerm k2 u2 n2 tk2 tn2 tks2 ns2 ks2 atks2 ctks2 ans2 cns2 aks2 cks2  W hM2  (hr'.below (hbx.2.2.2.trans (hW.mono hbx.2.2.2.size)))
  have hc3 := fun (W : World) (hW : Below ((w.alloc (.cells #[.int .i64 k1, .int .i64 u1, .string n1, .int .i64 tk1, .string tn1, .slice atks1 tks1.length ctks1, .slice ans1 ns1.length cns1, .slice aks1 ks1.length cks1] 55)).alloc (.cells #[.int .i64 k2, .int .i64 u2, .string n2, .int .i64 tk2, .string tn2, .slice atks2 tks2.length ctks2, .slice ans2 ns2.length cns2, .slice aks2 ks2.length cks2] 55)).heap.size ((w.alloc (.cells #[.int .i64 k1, .int .i64 u1, .string n1, .int .i64 tk1, .string tn1, .slice atks1 tks1.length ctks1, .slice ans1 ns1.length cns1, .slice aks1 ks1.length cks1] 55)).alloc (.cells #[.int .i64 k2, .int .i64 u2, .string n2, .int .i64 tk2, .string tn2, .slice atks2 tks2.length ctks2, .slice ans2 ns2.length cns2, .slice aks2 ks2.length cks2] 55)) W) => alphaSame_all (Tm.bulk (Tm.mk k1 u1 n1 (Ty.mk tk1 tn1 tks1) ns1 ks1) + 1) k1 u1 n1 tk1 tn1 tks1 ns1 ks1 atks1 ctks1 ans1 cns1 aks1 cks1 k2 u2 n2 tk2 tn2 tks2 ns2 ks2 atks2 ctks2 ans2 cns2 aks2 cks2 [] [] _ _ W (by omega) hM hM2 (by simp; omega) (by simp; omega) (hr.below (hbx.2.2.2.trans (hW.mono hbx.2.2.2.size))) (hr'.below (hbx.2.2.2.trans (hW.mono hbx.2.2.2.size))) (StrsL.nil W) (StrsL.nil W)
  clear hbx
  by_cases h1 : Tm.ok (Tm.mk k1 u1 n1 (Ty.mk tk1 tn1 tks1) ns1 ks1) = true
  case neg =>
    have hf := (Bool.not_eq_true _).mp h1
    rw [hf] at hc1
    have HE := hid (alphaN_a (Tm.mk k2 u2 n2 (Ty.mk tk2 tn2 tks2) ns2 ks2) hf)
    have HC1 := hid hc1
    clear hc1 hc2 hc3 h1 hf hM hM2 hr hr'
    have HX0_0 := HX0
    have HX1_0 := HX1
    have e0_0 := heap_cell HX0_0.out (j := 0) rfl
    have e0_1 := heap_cell HX0_0.out (j := 1) rfl
    have e0_2 := heap_cell HX0_0.out (j := 2) rfl
    have e0_3 := heap_cell HX0_0.out (j := 3) rfl
    have e0_4 := heap_cell HX0_0.out (j := 4) rfl
    have e0_5 := heap_cell HX0_0.out (j := 5) rfl
    have e0_6 := heap_cell HX0_0.out (j := 6) rfl
    have e0_7 := heap_cell HX0_0.out (j := 7) rfl
    have d0_0 := heap_cell HX1_0.out (j := 0) rfl
    have d0_1 := heap_cell HX1_0.out (j := 1) rfl
    have d0_2 := heap_cell HX1_0.out (j := 2) rfl
    have d0_3 := heap_cell HX1_0.out (j := 3) rfl
    have d0_4 := heap_cell HX1_0.out (j := 4) rfl
    have d0_5 := heap_cell HX1_0.out (j := 5) rfl
    have d0_6 := heap_cell HX1_0.out (j := 6) rfl
    have d0_7 := heap_cell HX1_0.out (j := 7) rfl
    go_enter Try.func30, Try.ntmps30
    go_wp2_with fail
    refine (HC1.out _ (Below.refl _ _)).mono ?_
    rintro e w1 ⟨rfl, hb⟩
    have HB1 := hid hb
    have HX0_1 := hid (heap_lift HX0.out HB1.out)
    have HX1_1 := hid (heap_lift HX1.out HB1.out)
    clear hb
    clear e0_0 d0_0 e0_1 d0_1 e0_2 d0_2 e0_3 d0_3 e0_4 d0_4 e0_5 d0_5 e0_6 d0_6 e0_7 d0_7
    have e1_0 := heap_cell HX0_1.out (j := 0) rfl
    have e1_1 := heap_cell HX0_1.out (j := 1) rfl
    have e1_2 := heap_cell HX0_1.out (j := 2) rfl
    have e1_3 := heap_cell HX0_1.out (j := 3) rfl
    have e1_4 := heap_cell HX0_1.out (j := 4) rfl
    have e1_5 := heap_cell HX0_1.out (j := 5) rfl
    have e1_6 := heap_cell HX0_1.out (j := 6) rfl
    have e1_7 := heap_cell HX0_1.out (j := 7) rfl
    have d1_0 := heap_cell HX1_1.out (j := 0) rfl
    have d1_1 := heap_cell HX1_1.out (j := 1) rfl
    have d1_2 := heap_cell HX1_1.out (j := 2) rfl
    have d1_3 := heap_cell HX1_1.out (j := 3) rfl
    have d1_4 := heap_cell HX1_1.out (j := 4) rfl
    have d1_5 := heap_cell HX1_1.out (j := 5) rfl
    have d1_6 := heap_cell HX1_1.out (j := 6) rfl
    have d1_7 := heap_cell HX1_1.out (j := 7) rfl
    go_wp2_with fail
    go_ret
    exact ⟨ret_bool HE.out.symm, HBX.out.trans (HB1.out.mono HBX.out.size)⟩
  case pos =>
  rw [h1] at hc1
  have HC1 := hid hc1
  by_cases h2 : Tm.ok (Tm.mk k2 u2 n2 (Ty.mk tk2 tn2 tks2) ns2 ks2) = true
  case neg =>
    have hf := (Bool.not_eq_true _).mp h2
    rw [hf] at hc2
    have HE := hid (alphaN_b h1 hf)
    have HC2 := hid hc2
    clear hc1 hc2 hc3 h1 h2 hf hM hM2 hr hr'
    have HX0_0 := HX0
    have HX1_0 := HX1
    have e0_0 := heap_cell HX0_0.out (j := 0) rfl
    have e0_1 := heap_cell HX0_0.out (j := 1) rfl
    have e0_2 := heap_cell HX0_0.out (j := 2) rfl
    have e0_3 := heap_cell HX0_0.out (j := 3) rfl
    have e0_4 := heap_cell HX0_0.out (j := 4) rfl
    have e0_5 := heap_cell HX0_0.out (j := 5) rfl
    have e0_6 := heap_cell HX0_0.out (j := 6) rfl
    have e0_7 := heap_cell HX0_0.out (j := 7) rfl
    have d0_0 := heap_cell HX1_0.out (j := 0) rfl
    have d0_1 := heap_cell HX1_0.out (j := 1) rfl
    have d0_2 := heap_cell HX1_0.out (j := 2) rfl
    have d0_3 := heap_cell HX1_0.out (j := 3) rfl
    have d0_4 := heap_cell HX1_0.out (j := 4) rfl
    have d0_5 := heap_cell HX1_0.out (j := 5) rfl
    have d0_6 := heap_cell HX1_0.out (j := 6) rfl
    have d0_7 := heap_cell HX1_0.out (j := 7) rfl
    go_enter Try.func30, Try.ntmps30
    go_wp2_with fail
    refine (HC1.out _ (Below.refl _ _)).mono ?_
    rintro e w1 ⟨rfl, hb⟩
    have HB1 := hid hb
    have HX0_1 := hid (heap_lift HX0.out HB1.out)
    have HX1_1 := hid (heap_lift HX1.out HB1.out)
    clear hb
    clear e0_0 d0_0 e0_1 d0_1 e0_2 d0_2 e0_3 d0_3 e0_4 d0_4 e0_5 d0_5 e0_6 d0_6 e0_7 d0_7
    have e1_0 := heap_cell HX0_1.out (j := 0) rfl
    have e1_1 := heap_cell HX0_1.out (j := 1) rfl
    have e1_2 := heap_cell HX0_1.out (j := 2) rfl
    have e1_3 := heap_cell HX0_1.out (j := 3) rfl
    have e1_4 := heap_cell HX0_1.out (j := 4) rfl
    have e1_5 := heap_cell HX0_1.out (j := 5) rfl
    have e1_6 := heap_cell HX0_1.out (j := 6) rfl
    have e1_7 := heap_cell HX0_1.out (j := 7) rfl
    have d1_0 := heap_cell HX1_1.out (j := 0) rfl
    have d1_1 := heap_cell HX1_1.out (j := 1) rfl
    have d1_2 := heap_cell HX1_1.out (j := 2) rfl
    have d1_3 := heap_cell HX1_1.out (j := 3) rfl
    have d1_4 := heap_cell HX1_1.out (j := 4) rfl
    have d1_5 := heap_cell HX1_1.out (j := 5) rfl
    have d1_6 := heap_cell HX1_1.out (j := 6) rfl
    have d1_7 := heap_cell HX1_1.out (j := 7) rfl
    go_wp2_with fail
    refine (HC2.out _ (HB1.out)).mono ?_
    rintro e w2 ⟨rfl, hb⟩
    have HB2 := hid (HB1.out.trans (hb.mono HB1.out.size))
    have HX0_2 := hid (heap_lift HX0.out HB2.out)
    have HX1_2 := hid (heap_lift HX1.out HB2.out)
    clear hb
    clear e1_0 d1_0 e1_1 d1_1 e1_2 d1_2 e1_3 d1_3 e1_4 d1_4 e1_5 d1_5 e1_6 d1_6 e1_7 d1_7
    have e2_0 := heap_cell HX0_2.out (j := 0) rfl
    have e2_1 := heap_cell HX0_2.out (j := 1) rfl
    have e2_2 := heap_cell HX0_2.out (j := 2) rfl
    have e2_3 := heap_cell HX0_2.out (j := 3) rfl
    have e2_4 := heap_cell HX0_2.out (j := 4) rfl
    have e2_5 := heap_cell HX0_2.out (j := 5) rfl
    have e2_6 := heap_cell HX0_2.out (j := 6) rfl
    have e2_7 := heap_cell HX0_2.out (j := 7) rfl
    have d2_0 := heap_cell HX1_2.out (j := 0) rfl
    have d2_1 := heap_cell HX1_2.out (j := 1) rfl
    have d2_2 := heap_cell HX1_2.out (j := 2) rfl
    have d2_3 := heap_cell HX1_2.out (j := 3) rfl
    have d2_4 := heap_cell HX1_2.out (j := 4) rfl
    have d2_5 := heap_cell HX1_2.out (j := 5) rfl
    have d2_6 := heap_cell HX1_2.out (j := 6) rfl
    have d2_7 := heap_cell HX1_2.out (j := 7) rfl
    go_wp2_with fail
    go_ret
    exact ⟨ret_bool HE.out.symm, HBX.out.trans (HB2.out.mono HBX.out.size)⟩
  case pos =>
  rw [h2] at hc2
  have HC2 := hid hc2
  have HE := hid (alphaN_y h1 h2)
  generalize Tm.alpha (Tm.mk k1 u1 n1 (Ty.mk tk1 tn1 tks1) ns1 ks1) (Tm.mk k2 u2 n2 (Ty.mk tk2 tn2 tks2) ns2 ks2) [] [] = r at HE hc3
  have HC3 := hid hc3
  clear hc1 hc2 hc3 h1 h2 hM hM2 hr hr'
  have HX0_0 := HX0
  have HX1_0 := HX1
  have e0_0 := heap_cell HX0_0.out (j := 0) rfl
  have e0_1 := heap_cell HX0_0.out (j := 1) rfl
  have e0_2 := heap_cell HX0_0.out (j := 2) rfl
  have e0_3 := heap_cell HX0_0.out (j := 3) rfl
  have e0_4 := heap_cell HX0_0.out (j := 4) rfl
  have e0_5 := heap_cell HX0_0.out (j := 5) rfl
  have e0_6 := heap_cell HX0_0.out (j := 6) rfl
  have e0_7 := heap_cell HX0_0.out (j := 7) rfl
  have d0_0 := heap_cell HX1_0.out (j := 0) rfl
  have d0_1 := heap_cell HX1_0.out (j := 1) rfl
  have d0_2 := heap_cell HX1_0.out (j := 2) rfl
  have d0_3 := heap_cell HX1_0.out (j := 3) rfl
  have d0_4 := heap_cell HX1_0.out (j := 4) rfl
  have d0_5 := heap_cell HX1_0.out (j := 5) rfl
  have d0_6 := heap_cell HX1_0.out (j := 6) rfl
  have d0_7 := heap_cell HX1_0.out (j := 7) rfl
  go_enter Try.func30, Try.ntmps30
  go_wp2_with fail
  refine (HC1.out _ (Below.refl _ _)).mono ?_
  rintro e w1 ⟨rfl, hb⟩
  have HB1 := hid hb
  have HX0_1 := hid (heap_lift HX0.out HB1.out)
  have HX1_1 := hid (heap_lift HX1.out HB1.out)
  clear hb
  clear e0_0 d0_0 e0_1 d0_1 e0_2 d0_2 e0_3 d0_3 e0_4 d0_4 e0_5 d0_5 e0_6 d0_6 e0_7 d0_7
  have e1_0 := heap_cell HX0_1.out (j := 0) rfl
  have e1_1 := heap_cell HX0_1.out (j := 1) rfl
  have e1_2 := heap_cell HX0_1.out (j := 2) rfl
  have e1_3 := heap_cell HX0_1.out (j := 3) rfl
  have e1_4 := heap_cell HX0_1.out (j := 4) rfl
  have e1_5 := heap_cell HX0_1.out (j := 5) rfl
  have e1_6 := heap_cell HX0_1.out (j := 6) rfl
  have e1_7 := heap_cell HX0_1.out (j := 7) rfl
  have d1_0 := heap_cell HX1_1.out (j := 0) rfl
  have d1_1 := heap_cell HX1_1.out (j := 1) rfl
  have d1_2 := heap_cell HX1_1.out (j := 2) rfl
  have d1_3 := heap_cell HX1_1.out (j := 3) rfl
  have d1_4 := heap_cell HX1_1.out (j := 4) rfl
  have d1_5 := heap_cell HX1_1.out (j := 5) rfl
  have d1_6 := heap_cell HX1_1.out (j := 6) rfl
  have d1_7 := heap_cell HX1_1.out (j := 7) rfl
  go_wp2_with fail
  refine (HC2.out _ (HB1.out)).mono ?_
  rintro e w2 ⟨rfl, hb⟩
  have HB2 := hid (HB1.out.trans (hb.mono HB1.out.size))
  have HX0_2 := hid (heap_lift HX0.out HB2.out)
  have HX1_2 := hid (heap_lift HX1.out HB2.out)
  clear hb
  clear e1_0 d1_0 e1_1 d1_1 e1_2 d1_2 e1_3 d1_3 e1_4 d1_4 e1_5 d1_5 e1_6 d1_6 e1_7 d1_7
  have e2_0 := heap_cell HX0_2.out (j := 0) rfl
  have e2_1 := heap_cell HX0_2.out (j := 1) rfl
  have e2_2 := heap_cell HX0_2.out (j := 2) rfl
  have e2_3 := heap_cell HX0_2.out (j := 3) rfl
  have e2_4 := heap_cell HX0_2.out (j := 4) rfl
  have e2_5 := heap_cell HX0_2.out (j := 5) rfl
  have e2_6 := heap_cell HX0_2.out (j := 6) rfl
  have e2_7 := heap_cell HX0_2.out (j := 7) rfl
  have d2_0 := heap_cell HX1_2.out (j := 0) rfl
  have d2_1 := heap_cell HX1_2.out (j := 1) rfl
  have d2_2 := heap_cell HX1_2.out (j := 2) rfl
  have d2_3 := heap_cell HX1_2.out (j := 3) rfl
  have d2_4 := heap_cell HX1_2.out (j := 4) rfl
  have d2_5 := heap_cell HX1_2.out (j := 5) rfl
  have d2_6 := heap_cell HX1_2.out (j := 6) rfl
  have d2_7 := heap_cell HX1_2.out (j := 7) rfl
  go_wp2_with fail
  refine (HC3.out _ (HB2.out)).mono ?_
  rintro e w3 ⟨rfl, hb⟩
  have HB3 := hid (HB2.out.trans (hb.mono HB2.out.size))
  have HX0_3 := hid (heap_lift HX0.out HB3.out)
  have HX1_3 := hid (heap_lift HX1.out HB3.out)
  clear hb
  clear e2_0 d2_0 e2_1 d2_1 e2_2 d2_2 e2_3 d2_3 e2_4 d2_4 e2_5 d2_5 e2_6 d2_6 e2_7 d2_7
  have e3_0 := heap_cell HX0_3.out (j := 0) rfl
  have e3_1 := heap_cell HX0_3.out (j := 1) rfl
  have e3_2 := heap_cell HX0_3.out (j := 2) rfl
  have e3_3 := heap_cell HX0_3.out (j := 3) rfl
  have e3_4 := heap_cell HX0_3.out (j := 4) rfl
  have e3_5 := heap_cell HX0_3.out (j := 5) rfl
  have e3_6 := heap_cell HX0_3.out (j := 6) rfl
  have e3_7 := heap_cell HX0_3.out (j := 7) rfl
  have d3_0 := heap_cell HX1_3.out (j := 0) rfl
  have d3_1 := heap_cell HX1_3.out (j := 1) rfl
  have d3_2 := heap_cell HX1_3.out (j := 2) rfl
  have d3_3 := heap_cell HX1_3.out (j := 3) rfl
  have d3_4 := heap_cell HX1_3.out (j := 4) rfl
  have d3_5 := heap_cell HX1_3.out (j := 5) rfl
  have d3_6 := heap_cell HX1_3.out (j := 6) rfl
  have d3_7 := heap_cell HX1_3.out (j := 7) rfl
  go_wp2_with fail
  go_ret
  exact ⟨ret_bool HE.out.symm, HBX.out.trans (HB3.out.mono HBX.out.size)⟩
end Go.Proofs.Ytgpefnlpbjnjbaa
