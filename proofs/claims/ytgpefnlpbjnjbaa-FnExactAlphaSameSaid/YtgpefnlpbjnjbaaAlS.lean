/- Walks: AlphaSame in the reference. No condition. -/
import Derived.Test.YtgpefnlpbjnjbaaAlP
import Derived.Test.YtgpefnlpbjnjbaaNmG
import Derived.Test.YtgpefnlpbjnjbaaTmValid
import Derived.Deep.RegionHeld3
namespace Go.Proofs.Ytgpefnlpbjnjbaa
open Go.ChangeShapes Go.WideShapes Go.ChangeAt Go.RowKit Go.BigFrame
open Go.Sort (grow)
set_option linter.unusedVariables false

theorem last_B (ns : List ByteArray) (v : Value) (s : ByteArray) (w : World) (h : StrsL w ns v) :
    Calls Try.prog 121 #[v, .string s] w fun e w' => e = .returned (.int .i64 (lastAt s ns)) ∧ Below w.heap.size w w' := (last_L ns v s w h).mono (by rintro e w' ⟨rfl, rfl⟩; exact ⟨rfl, Below.refl _ _⟩)
def AlW (N : Nat) : Prop := ∀ (k1 : Int) (u1 : Int) (n1 : ByteArray) (tk1 : Int) (tn1 : ByteArray) (tks1 : List Ty) (ns1 : List ByteArray) (ks1 : List Tm) (atks1 : Option Addr) (ctks1 : Nat) (ans1 : Option Addr) (cns1 : Nat) (aks1 : Option Addr) (cks1 : Nat) (k2 : Int) (u2 : Int) (n2 : ByteArray) (tk2 : Int) (tn2 : ByteArray) (tks2 : List Ty) (ns2 : List ByteArray) (ks2 : List Tm) (atks2 : Option Addr) (ctks2 : Nat) (ans2 : Option Addr) (cns2 : Nat) (aks2 : Option Addr) (cks2 : Nat) (b1 o1 b2 o2 : Nat) (x y : List ByteArray) (vx vy : Value) (w : World), Tm.bulk (Tm.mk k1 u1 n1 (Ty.mk tk1 tn1 tks1) ns1 ks1) < N → Tm.bulk (Tm.mk k1 u1 n1 (Ty.mk tk1 tn1 tks1) ns1 ks1) ≤ 1048576 → Tm.bulk (Tm.mk k2 u2 n2 (Ty.mk tk2 tn2 tks2) ns2 ks2) ≤ 1048576 → x.length + 1 + Tm.bulk (Tm.mk k1 u1 n1 (Ty.mk tk1 tn1 tks1) ns1 ks1) ≤ 4194304 → y.length + 1 + Tm.bulk (Tm.mk k2 u2 n2 (Ty.mk tk2 tn2 tks2) ns2 ks2) ≤ 4194304 → w.cell? ⟨b1, o1, none⟩ = some (.int .i64 k1) → w.cell? ⟨b1, o1 + 1, none⟩ = some (.int .i64 u1) → w.cell? ⟨b1, o1 + 2, none⟩ = some (.string n1) → w.cell? ⟨b1, o1 + 3, none⟩ = some (.int .i64 tk1) → w.cell? ⟨b1, o1 + 4, none⟩ = some (.string tn1) → w.cell? ⟨b1, o1 + 5, none⟩ = some (.slice atks1 tks1.length ctks1) → w.cell? ⟨b1, o1 + 6, none⟩ = some (.slice ans1 ns1.length cns1) → w.cell? ⟨b1, o1 + 7, none⟩ = some (.slice aks1 ks1.length cks1) → w.cell? ⟨b2, o2, none⟩ = some (.int .i64 k2) → w.cell? ⟨b2, o2 + 1, none⟩ = some (.int .i64 u2) → w.cell? ⟨b2, o2 + 2, none⟩ = some (.string n2) → w.cell? ⟨b2, o2 + 3, none⟩ = some (.int .i64 tk2) → w.cell? ⟨b2, o2 + 4, none⟩ = some (.string tn2) → w.cell? ⟨b2, o2 + 5, none⟩ = some (.slice atks2 tks2.length ctks2) → w.cell? ⟨b2, o2 + 6, none⟩ = some (.slice ans2 ns2.length cns2) → w.cell? ⟨b2, o2 + 7, none⟩ = some (.slice aks2 ks2.length cks2) → RdS w (Tm.d (Tm.mk k1 u1 n1 (Ty.mk tk1 tn1 tks1) ns1 ks1)) [.int .i64 k1, .int .i64 u1, .string n1, .int .i64 tk1, .string tn1, .slice atks1 tks1.length ctks1, .slice ans1 ns1.length cns1, .slice aks1 ks1.length cks1] → RdS w (Tm.d (Tm.mk k2 u2 n2 (Ty.mk tk2 tn2 tks2) ns2 ks2)) [.int .i64 k2, .int .i64 u2, .string n2, .int .i64 tk2, .string tn2, .slice atks2 tks2.length ctks2, .slice ans2 ns2.length cns2, .slice aks2 ks2.length cks2] → StrsL w x vx → StrsL w y vy →
  Calls Try.prog 74 #[.pointer (some ⟨b1, o1, none⟩), .pointer (some ⟨b2, o2, none⟩), vx, vy] w fun e w' => e = .returned (.bool (Tm.alpha (Tm.mk k1 u1 n1 (Ty.mk tk1 tn1 tks1) ns1 ks1) (Tm.mk k2 u2 n2 (Ty.mk tk2 tn2 tks2) ns2 ks2) x y)) ∧ Below w.heap.size w w'
set_option maxRecDepth 100000 in
set_option maxHeartbeats 8000000 in
theorem l03Alpha_step (N : Nat) (ih : AlW N) : AlW (N + 1) := by
  intro k1 u1 n1 tk1 tn1 tks1 ns1 ks1 atks1 ctks1 ans1 cns1 aks1 cks1 k2 u2 n2 tk2 tn2 tks2 ns2 ks2 atks2 ctks2 ans2 cns2 aks2 cks2 b1 o1 b2 o2 x y vx vy w hN hM hM2 hX hY x0 x1 x2 x3 x4 x5 x6 x7 y0 y1 y2 y3 y4 y5 y6 y7 hr hr' hLx hLy
  have hc0 := fun d os => Calls.regrown_of (spec_SameType tk1 tk2 tn1 tn2 tks1 tks2 atks1 atks2 ctks1 ctks2 (grow (redrawn w d) os) (hr.subTm_t.below (below_regrown w d os)) (hr'.subTm_t.below (below_regrown w d os)))
  have e0 := cell_regrown x0
  have d0 := cell_regrown y0
  have e1 := cell_regrown x1
  have d1 := cell_regrown y1
  have e2 := cell_regrown x2
  have d2 := cell_regrown y2
  have e3 := cell_regrown x3
  have d3 := cell_regrown y3
  have e4 := cell_regrown x4
  have d4 := cell_regrown y4
  have e5 := cell_regrown x5
  have d5 := cell_regrown y5
  have e6 := cell_regrown x6
  have d6 := cell_regrown y6
  have e7 := cell_regrown x7
  have d7 := cell_regrown y7
  have X0 := hid x0
  have Y0 := hid y0
  have X2 := hid x2
  have Y2 := hid y2
  have X6 := hid x6
  have Y6 := hid y6
  have X7 := hid x7
  have Y7 := hid y7
  have XL := hid (World.block_lt_of_cell? _ _ x7)
  have YL := hid (World.block_lt_of_cell? _ _ y7)
  have HLX := hid hLx
  have HLY := hid hLy
  have HIN := hid ih
  have HN := hid hN
  have HM := hid hM
  have HM2 := hid hM2
  have HX := hid hX
  have HY := hid hY
  have HR := hid hr
  have HR2 := hid hr'
  have EQ0 := hid (show Tm.alpha (Tm.mk k1 u1 n1 (Ty.mk tk1 tn1 tks1) ns1 ks1) (Tm.mk k2 u2 n2 (Ty.mk tk2 tn2 tks2) ns2 ks2) x y = _ from Tm.alpha.eq_1 _ _ _ _ _ _ _ _ _ _ _ _ _ _)
  obtain ⟨ax, cx, rfl, -⟩ := hLx
  obtain ⟨ay, cy, rfl, -⟩ := hLy
  clear ih hN hM hM2 hX hY hr hr' x0 x1 x2 x3 x4 x5 x6 x7 y0 y1 y2 y3 y4 y5 y6 y7
  by_cases h_k : k1 = k2
  case neg =>
    have HE := hid (show Tm.alpha (Tm.mk k1 u1 n1 (Ty.mk tk1 tn1 tks1) ns1 ks1) (Tm.mk k2 u2 n2 (Ty.mk tk2 tn2 tks2) ns2 ks2) x y = false by rw [EQ0.out, decide_eq_false h_k]; simp only [Bool.false_and])
    have hb_k : (k1 != k2) = true := by simp; omega
    clear h_k hc0 EQ0 HIN HN HM HM2 HX HY HR HR2 X0 X2 X6 X7 Y0 Y2 Y6 Y7 XL YL HLX HLY 
    go_enter Try.func74, Try.ntmps74
    go_wp2_with fail
    refine wp_region_quiet_below (by kernel_rfl) (by kernel_rfl) ?_
    repeat (go_big_quiet_step (fail))
    refine wpQuiet_nil ?_
    intro w1 hw'
    obtain ⟨⟨dq, osq⟩, hw''⟩ := hw'
    have hb1 : Below w.heap.size w w1 := by subst hw''; exact below_regrown w dq osq
    clear hw''
    clear e0 d0 e1 d1 e2 d2 e3 d3 e4 d4 e5 d5 e6 d6 e7 d7
    go_wp2_with fail
    go_ret
    exact ⟨ret_bool HE.out.symm, hb1⟩
  case pos =>
  have hb_k : (k1 != k2) = false := by simp [h_k]
  have H_k := hid h_k
  clear h_k
  by_cases h_u : u1 = u2
  case neg =>
    have HE := hid (show Tm.alpha (Tm.mk k1 u1 n1 (Ty.mk tk1 tn1 tks1) ns1 ks1) (Tm.mk k2 u2 n2 (Ty.mk tk2 tn2 tks2) ns2 ks2) x y = false by rw [EQ0.out, decide_eq_false h_u]; simp only [Bool.false_and, Bool.and_false])
    have hb_u : (u1 != u2) = true := by simp; omega
    clear h_u hc0 EQ0 HIN HN HM HM2 HX HY HR HR2 X0 X2 X6 X7 Y0 Y2 Y6 Y7 XL YL HLX HLY 
    go_enter Try.func74, Try.ntmps74
    go_wp2_with fail
    refine wp_region_quiet_below (by kernel_rfl) (by kernel_rfl) ?_
    repeat (go_big_quiet_step (fail))
    refine wpQuiet_nil ?_
    intro w1 hw'
    obtain ⟨⟨dq, osq⟩, hw''⟩ := hw'
    have hb1 : Below w.heap.size w w1 := by subst hw''; exact below_regrown w dq osq
    clear hw''
    clear e0 d0 e1 d1 e2 d2 e3 d3 e4 d4 e5 d5 e6 d6 e7 d7
    go_wp2_with fail
    go_ret
    exact ⟨ret_bool HE.out.symm, hb1⟩
  case pos =>
  have hb_u : (u1 != u2) = false := by simp [h_u]
  have H_u := hid h_u
  clear h_u
  by_cases h_t : Ty.eqb (Ty.mk tk1 tn1 tks1) (Ty.mk tk2 tn2 tks2) = true
  case neg =>
    replace h_t := (Bool.not_eq_true _).mp h_t
    rw [h_t] at hc0
    have HC0 := hid hc0
    have HE := hid (show Tm.alpha (Tm.mk k1 u1 n1 (Ty.mk tk1 tn1 tks1) ns1 ks1) (Tm.mk k2 u2 n2 (Ty.mk tk2 tn2 tks2) ns2 ks2) x y = false by rw [EQ0.out, h_t]; simp only [Bool.false_and, Bool.and_false])
    clear h_t hc0 EQ0 HIN HN HM HM2 HX HY HR HR2 X0 X2 X6 X7 Y0 Y2 Y6 Y7 XL YL HLX HLY 
    go_enter Try.func74, Try.ntmps74
    go_wp2_with fail
    refine wp_region_quiet_below (by kernel_rfl) (by kernel_rfl) ?_
    repeat (go_big_quiet_step (exact HC0.out _ _))
    refine wpQuiet_nil ?_
    intro w1 hw'
    obtain ⟨⟨dq, osq⟩, hw''⟩ := hw'
    have hb1 : Below w.heap.size w w1 := by subst hw''; exact below_regrown w dq osq
    clear hw''
    clear e0 d0 e1 d1 e2 d2 e3 d3 e4 d4 e5 d5 e6 d6 e7 d7
    go_wp2_with fail
    go_ret
    exact ⟨ret_bool HE.out.symm, hb1⟩
  case pos =>
  rw [h_t] at hc0
  have HC0 := hid hc0
  clear hc0
  have H_t := hid h_t
  clear h_t
  by_cases h_l : ns1.length = ns2.length
  case neg =>
    have HE := hid (show Tm.alpha (Tm.mk k1 u1 n1 (Ty.mk tk1 tn1 tks1) ns1 ks1) (Tm.mk k2 u2 n2 (Ty.mk tk2 tn2 tks2) ns2 ks2) x y = false by rw [EQ0.out, decide_eq_false h_l]; simp only [Bool.false_and, Bool.and_false])
    have hb_l : ((ns1.length : Int) != (ns2.length : Int)) = true := by simp; omega
    clear h_l EQ0 HIN HN HM HM2 HX HY HR HR2 X0 X2 X6 X7 Y0 Y2 Y6 Y7 XL YL HLX HLY 
    go_enter Try.func74, Try.ntmps74
    go_wp2_with fail
    refine wp_region_quiet_below (by kernel_rfl) (by kernel_rfl) ?_
    repeat (go_big_quiet_step (exact HC0.out _ _))
    refine wpQuiet_nil ?_
    intro w1 hw'
    obtain ⟨⟨dq, osq⟩, hw''⟩ := hw'
    have hb1 : Below w.heap.size w w1 := by subst hw''; exact below_regrown w dq osq
    clear hw''
    clear e0 d0 e1 d1 e2 d2 e3 d3 e4 d4 e5 d5 e6 d6 e7 d7
    go_wp2_with fail
    go_ret
    exact ⟨ret_bool HE.out.symm, hb1⟩
  case pos =>
  have hb_l : ((ns1.length : Int) != (ns2.length : Int)) = false := by simp [h_l]
  have H_l := hid h_l
  clear h_l
  by_cases h_c : ks1.length = ks2.length
  case neg =>
    have HE := hid (show Tm.alpha (Tm.mk k1 u1 n1 (Ty.mk tk1 tn1 tks1) ns1 ks1) (Tm.mk k2 u2 n2 (Ty.mk tk2 tn2 tks2) ns2 ks2) x y = false by rw [EQ0.out, decide_eq_false h_c]; simp only [Bool.false_and, Bool.and_false])
    have hb_c : ((ks1.length : Int) != (ks2.length : Int)) = true := by simp; omega
    clear h_c EQ0 HIN HN HM HM2 HX HY HR HR2 X0 X2 X6 X7 Y0 Y2 Y6 Y7 XL YL HLX HLY 
    go_enter Try.func74, Try.ntmps74
    go_wp2_with fail
    refine wp_region_quiet_below (by kernel_rfl) (by kernel_rfl) ?_
    repeat (go_big_quiet_step (exact HC0.out _ _))
    refine wpQuiet_nil ?_
    intro w1 hw'
    obtain ⟨⟨dq, osq⟩, hw''⟩ := hw'
    have hb1 : Below w.heap.size w w1 := by subst hw''; exact below_regrown w dq osq
    clear hw''
    clear e0 d0 e1 d1 e2 d2 e3 d3 e4 d4 e5 d5 e6 d6 e7 d7
    go_wp2_with fail
    go_ret
    exact ⟨ret_bool HE.out.symm, hb1⟩
  case pos =>
  have hb_c : ((ks1.length : Int) != (ks2.length : Int)) = false := by simp [h_c]
  have H_c := hid h_c
  clear h_c
  have HA := hid (show Tm.alpha (Tm.mk k1 u1 n1 (Ty.mk tk1 tn1 tks1) ns1 ks1) (Tm.mk k2 u2 n2 (Ty.mk tk2 tn2 tks2) ns2 ks2) x y = (if k1 = 1 then varsB n1 n2 x y else if (k1 = 8 ∨ k1 = 10) ∧ n1 ≠ n2 then false else Tm.alphas k1 n1 ns1 k2 n2 ns2 0 ks1 ks2 x y) by rw [EQ0.out, decide_eq_true H_k.out, decide_eq_true H_u.out, H_t.out, decide_eq_true H_l.out, decide_eq_true H_c.out]; simp only [Bool.true_and])
  clear EQ0 H_u H_t H_l
  by_cases h1 : k1 = 1
  case pos =>
    have g1 : (k1 == 1) = true := by simp [h1]
    have HV := hid (show Tm.alpha (Tm.mk k1 u1 n1 (Ty.mk tk1 tn1 tks1) ns1 ks1) (Tm.mk k2 u2 n2 (Ty.mk tk2 tn2 tks2) ns2 ks2) x y = varsB n1 n2 x y by rw [HA.out, if_pos h1])
    have hq1 := fun W (hW : Below w.heap.size w W) => last_L x _ n1 W (HLX.out.below hW)
    have hq2 := fun W (hW : Below w.heap.size w W) => last_B y _ n2 W (HLY.out.below hW)
    obtain ⟨p, hp⟩ : ∃ p, lastAt n1 x = p := ⟨_, rfl⟩
    obtain ⟨q, hq⟩ : ∃ q, lastAt n2 y = q := ⟨_, rfl⟩
    have HVB := hid (HV.out.trans (varsB_y hp hq))
    rw [hp] at hq1
    rw [hq] at hq2
    have HQ1 := hid hq1
    have HQ2 := hid hq2
    clear hq1 hq2 hp hq HV HA h1 HIN HN HM HM2 HX HY HR HR2 X6 Y6 X7 Y7 HLX HLY H_k H_c
    by_cases hpq : p = q
    case neg =>
      have gpq : (p == q) = false := by simp [hpq]
      have HE := hid (show Tm.alpha (Tm.mk k1 u1 n1 (Ty.mk tk1 tn1 tks1) ns1 ks1) (Tm.mk k2 u2 n2 (Ty.mk tk2 tn2 tks2) ns2 ks2) x y = false by rw [HVB.out, decide_eq_false hpq]; rfl)
      clear hpq HVB
      go_enter Try.func74, Try.ntmps74
      go_wp2_with fail
      refine wp_region_quiet_below (by kernel_rfl) (by kernel_rfl) ?_
      repeat (go_big_quiet_step (exact HC0.out _ _))
      refine wpQuiet_nil ?_
      intro w1 hw'
      obtain ⟨⟨dq, osq⟩, hw''⟩ := hw'
      have hb1 : Below w.heap.size w w1 := by subst hw''; exact below_regrown w dq osq
      clear hw''
      clear e0 d0 e1 d1 e2 d2 e3 d3 e4 d4 e5 d5 e6 d6 e7 d7 HC0
      have z0 := (hb1.cell (p := ⟨b1, o1, none⟩) XL.out).trans X0.out
      have v0 := (hb1.cell (p := ⟨b2, o2, none⟩) YL.out).trans Y0.out
      have z2 := (hb1.cell (p := ⟨b1, o1 + 2, none⟩) XL.out).trans X2.out
      have v2 := (hb1.cell (p := ⟨b2, o2 + 2, none⟩) YL.out).trans Y2.out
      go_wp2_with fail
      refine (HQ1.out _ hb1).mono ?_
      rintro e w2 ⟨rfl, rfl⟩
      have f2 := cell_regrown z2
      have s2 := cell_regrown v2
      have hq3 := fun d os => Calls.regrown_of (HQ2.out (grow (redrawn w1 d) os) (hb1.trans ((below_regrown w1 d os).mono hb1.size)))
      have HQ3 := hid hq3
      clear hq3 z0 v0
      go_wp2_with fail
      refine wp_region_quiet_below (by kernel_rfl) (by kernel_rfl) ?_
      repeat (go_big_quiet_step (exact HQ3.out _ _))
      refine wpQuiet_nil ?_
      intro w3 hw'
      obtain ⟨⟨dq, osq⟩, hw''⟩ := hw'
      have hb3 : Below w1.heap.size w1 w3 := by subst hw''; exact below_regrown w1 dq osq
      clear hw''
      clear z2 v2 f2 s2
      go_wp2_with fail
      go_ret
      exact ⟨ret_bool HE.out.symm, hb1.trans (hb3.mono hb1.size)⟩
    case pos =>
    have gpq : (p == q) = true := by simp [hpq]
    by_cases hp0 : 0 ≤ p
    case pos =>
      have gp0 : decide (0 ≤ p) = true := by simp [hp0]
      have HE := hid (show Tm.alpha (Tm.mk k1 u1 n1 (Ty.mk tk1 tn1 tks1) ns1 ks1) (Tm.mk k2 u2 n2 (Ty.mk tk2 tn2 tks2) ns2 ks2) x y = true by rw [HVB.out, decide_eq_true hpq, gp0]; rfl)
      clear hpq HVB hp0
      go_enter Try.func74, Try.ntmps74
      go_wp2_with fail
      refine wp_region_quiet_below (by kernel_rfl) (by kernel_rfl) ?_
      repeat (go_big_quiet_step (exact HC0.out _ _))
      refine wpQuiet_nil ?_
      intro w1 hw'
      obtain ⟨⟨dq, osq⟩, hw''⟩ := hw'
      have hb1 : Below w.heap.size w w1 := by subst hw''; exact below_regrown w dq osq
      clear hw''
      clear e0 d0 e1 d1 e2 d2 e3 d3 e4 d4 e5 d5 e6 d6 e7 d7 HC0
      have z0 := (hb1.cell (p := ⟨b1, o1, none⟩) XL.out).trans X0.out
      have v0 := (hb1.cell (p := ⟨b2, o2, none⟩) YL.out).trans Y0.out
      have z2 := (hb1.cell (p := ⟨b1, o1 + 2, none⟩) XL.out).trans X2.out
      have v2 := (hb1.cell (p := ⟨b2, o2 + 2, none⟩) YL.out).trans Y2.out
      go_wp2_with fail
      refine (HQ1.out _ hb1).mono ?_
      rintro e w2 ⟨rfl, rfl⟩
      have f2 := cell_regrown z2
      have s2 := cell_regrown v2
      have hq3 := fun d os => Calls.regrown_of (HQ2.out (grow (redrawn w1 d) os) (hb1.trans ((below_regrown w1 d os).mono hb1.size)))
      have HQ3 := hid hq3
      clear hq3 z0 v0
      go_wp2_with fail
      refine wp_region_quiet_below (by kernel_rfl) (by kernel_rfl) ?_
      repeat (go_big_quiet_step (exact HQ3.out _ _))
      refine wpQuiet_nil ?_
      intro w3 hw'
      obtain ⟨⟨dq, osq⟩, hw''⟩ := hw'
      have hb3 : Below w1.heap.size w1 w3 := by subst hw''; exact below_regrown w1 dq osq
      clear hw''
      clear z2 v2 f2 s2
      go_wp2_with fail
      go_ret
      exact ⟨ret_bool HE.out.symm, hb1.trans (hb3.mono hb1.size)⟩
    case neg =>
    have gp0 : decide (0 ≤ p) = false := by simp; omega
    by_cases hnn : n1 = n2
    case pos =>
      have hbn := bytes_eq hnn
      have HE := hid (show Tm.alpha (Tm.mk k1 u1 n1 (Ty.mk tk1 tn1 tks1) ns1 ks1) (Tm.mk k2 u2 n2 (Ty.mk tk2 tn2 tks2) ns2 ks2) x y = true by rw [HVB.out, decide_eq_true hpq, gp0, decide_eq_true hnn]; rfl)
      clear hpq HVB hp0 hnn
      go_enter Try.func74, Try.ntmps74
      go_wp2_with fail
      refine wp_region_quiet_below (by kernel_rfl) (by kernel_rfl) ?_
      repeat (go_big_quiet_step (exact HC0.out _ _))
      refine wpQuiet_nil ?_
      intro w1 hw'
      obtain ⟨⟨dq, osq⟩, hw''⟩ := hw'
      have hb1 : Below w.heap.size w w1 := by subst hw''; exact below_regrown w dq osq
      clear hw''
      clear e0 d0 e1 d1 e2 d2 e3 d3 e4 d4 e5 d5 e6 d6 e7 d7 HC0
      have z0 := (hb1.cell (p := ⟨b1, o1, none⟩) XL.out).trans X0.out
      have v0 := (hb1.cell (p := ⟨b2, o2, none⟩) YL.out).trans Y0.out
      have z2 := (hb1.cell (p := ⟨b1, o1 + 2, none⟩) XL.out).trans X2.out
      have v2 := (hb1.cell (p := ⟨b2, o2 + 2, none⟩) YL.out).trans Y2.out
      go_wp2_with fail
      refine (HQ1.out _ hb1).mono ?_
      rintro e w2 ⟨rfl, rfl⟩
      have f2 := cell_regrown z2
      have s2 := cell_regrown v2
      have hq3 := fun d os => Calls.regrown_of (HQ2.out (grow (redrawn w1 d) os) (hb1.trans ((below_regrown w1 d os).mono hb1.size)))
      have HQ3 := hid hq3
      clear hq3 z0 v0
      go_wp2_with fail
      refine wp_region_quiet_below (by kernel_rfl) (by kernel_rfl) ?_
      repeat (go_big_quiet_step (exact HQ3.out _ _))
      refine wpQuiet_nil ?_
      intro w3 hw'
      obtain ⟨⟨dq, osq⟩, hw''⟩ := hw'
      have hb3 : Below w1.heap.size w1 w3 := by subst hw''; exact below_regrown w1 dq osq
      clear hw''
      clear z2 v2 f2 s2
      go_wp2_with fail
      go_ret
      exact ⟨ret_bool HE.out.symm, hb1.trans (hb3.mono hb1.size)⟩
    case neg =>
      have hbn := bytes_ne hnn
      have HE := hid (show Tm.alpha (Tm.mk k1 u1 n1 (Ty.mk tk1 tn1 tks1) ns1 ks1) (Tm.mk k2 u2 n2 (Ty.mk tk2 tn2 tks2) ns2 ks2) x y = false by rw [HVB.out, decide_eq_true hpq, gp0, decide_eq_false hnn]; rfl)
      clear hpq HVB hp0 hnn
      go_enter Try.func74, Try.ntmps74
      go_wp2_with fail
      refine wp_region_quiet_below (by kernel_rfl) (by kernel_rfl) ?_
      repeat (go_big_quiet_step (exact HC0.out _ _))
      refine wpQuiet_nil ?_
      intro w1 hw'
      obtain ⟨⟨dq, osq⟩, hw''⟩ := hw'
      have hb1 : Below w.heap.size w w1 := by subst hw''; exact below_regrown w dq osq
      clear hw''
      clear e0 d0 e1 d1 e2 d2 e3 d3 e4 d4 e5 d5 e6 d6 e7 d7 HC0
      have z0 := (hb1.cell (p := ⟨b1, o1, none⟩) XL.out).trans X0.out
      have v0 := (hb1.cell (p := ⟨b2, o2, none⟩) YL.out).trans Y0.out
      have z2 := (hb1.cell (p := ⟨b1, o1 + 2, none⟩) XL.out).trans X2.out
      have v2 := (hb1.cell (p := ⟨b2, o2 + 2, none⟩) YL.out).trans Y2.out
      go_wp2_with fail
      refine (HQ1.out _ hb1).mono ?_
      rintro e w2 ⟨rfl, rfl⟩
      have f2 := cell_regrown z2
      have s2 := cell_regrown v2
      have hq3 := fun d os => Calls.regrown_of (HQ2.out (grow (redrawn w1 d) os) (hb1.trans ((below_regrown w1 d os).mono hb1.size)))
      have HQ3 := hid hq3
      clear hq3 z0 v0
      go_wp2_with fail
      refine wp_region_quiet_below (by kernel_rfl) (by kernel_rfl) ?_
      repeat (go_big_quiet_step (exact HQ3.out _ _))
      refine wpQuiet_nil ?_
      intro w3 hw'
      obtain ⟨⟨dq, osq⟩, hw''⟩ := hw'
      have hb3 : Below w1.heap.size w1 w3 := by subst hw''; exact below_regrown w1 dq osq
      clear hw''
      clear z2 v2 f2 s2
      go_wp2_with fail
      go_ret
      exact ⟨ret_bool HE.out.symm, hb1.trans (hb3.mono hb1.size)⟩
  case neg =>
  have g1 : (k1 == 1) = false := by simp [h1]
  by_cases h8 : k1 = 8
  case pos =>
    by_cases hnn : n1 = n2
    case neg =>
      have hbn := bytes_ne hnn
      have g8 : (k1 == 8) = true := by simp [h8]
      have g10 : (k1 == 10) = false := by simp [h8]
      have HE := hid (show Tm.alpha (Tm.mk k1 u1 n1 (Ty.mk tk1 tn1 tks1) ns1 ks1) (Tm.mk k2 u2 n2 (Ty.mk tk2 tn2 tks2) ns2 ks2) x y = false by rw [HA.out, if_neg h1, if_pos ⟨by simp [h8], hnn⟩])
      clear HA h1 h8 hnn HIN HN HM HM2 HX HY HR HR2 X6 Y6 X7 Y7 HLX HLY H_k H_c
      go_enter Try.func74, Try.ntmps74
      go_wp2_with fail
      refine wp_region_quiet_below (by kernel_rfl) (by kernel_rfl) ?_
      repeat (go_big_quiet_step (exact HC0.out _ _))
      refine wpQuiet_nil ?_
      intro w1 hw'
      obtain ⟨⟨dq, osq⟩, hw''⟩ := hw'
      have hb1 : Below w.heap.size w w1 := by subst hw''; exact below_regrown w dq osq
      clear hw''
      clear e0 d0 e1 d1 e2 d2 e3 d3 e4 d4 e5 d5 e6 d6 e7 d7 HC0
      have z0 := (hb1.cell (p := ⟨b1, o1, none⟩) XL.out).trans X0.out
      have z2 := (hb1.cell (p := ⟨b1, o1 + 2, none⟩) XL.out).trans X2.out
      have v2 := (hb1.cell (p := ⟨b2, o2 + 2, none⟩) YL.out).trans Y2.out
      go_wp2_with fail
      have f2 := cell_regrown z2
      have s2 := cell_regrown v2
      refine wp_region_quiet_below (by kernel_rfl) (by kernel_rfl) ?_
      repeat (go_big_quiet_step (fail))
      refine wpQuiet_nil ?_
      intro w3 hw'
      obtain ⟨⟨dq, osq⟩, hw''⟩ := hw'
      have hb3 : Below w1.heap.size w1 w3 := by subst hw''; exact below_regrown w1 dq osq
      clear hw''
      clear z0 z2 v2 f2 s2
      go_wp2_with fail
      go_ret
      exact ⟨ret_bool HE.out.symm, hb1.trans (hb3.mono hb1.size)⟩
    case pos =>
      have hbn := bytes_eq hnn
      have HNM := hid (show ¬ ((k1 = 8 ∨ k1 = 10) ∧ n1 ≠ n2) from fun h => h.2 hnn)
      have g8 : (k1 == 8) = true := by simp [h8]
      have g10 : (k1 == 10) = false := by simp [h8]
      clear h8 hnn
      have HAL := hid (show Tm.alpha (Tm.mk k1 u1 n1 (Ty.mk tk1 tn1 tks1) ns1 ks1) (Tm.mk k2 u2 n2 (Ty.mk tk2 tn2 tks2) ns2 ks2) x y = Tm.alphas k1 n1 ns1 k2 n2 ns2 0 ks1 ks2 x y by rw [HA.out, if_neg h1, if_neg HNM.out])
      have hfn := HR.out.fTm.2.2.2.2.1
      have hgn := HR2.out.fTm.2.2.2.2.1
      obtain ⟨_, _, e, h2, h3, h4⟩ := HR.out.fTm.2.2.2.2.2.eTm
      simp only [Value.slice.injEq, true_and] at e
      obtain ⟨rfl, rfl⟩ := e
      obtain ⟨_, _, e, h2', h3', h4'⟩ := HR2.out.fTm.2.2.2.2.2.eTm
      simp only [Value.slice.injEq, true_and] at e
      obtain ⟨rfl, rfl⟩ := e
      have hbk : Tm.bulks ks1 + ns1.length ≤ Tm.bulk (Tm.mk k1 u1 n1 (Ty.mk tk1 tn1 tks1) ns1 ks1) := by have := Sr.bulks_length ns1; simp only [Tm.bulk]; omega
      have hbk2 : Tm.bulks ks2 + ns2.length ≤ Tm.bulk (Tm.mk k2 u2 n2 (Ty.mk tk2 tn2 tks2) ns2 ks2) := by have := Sr.bulks_length ns2; simp only [Tm.bulk]; omega
      have hlk : ks1.length ≤ 1048576 := by have := Tm.bulks_length ks1; have := HM.out; omega
      have HFN := hid hfn
      have HGN := hid hgn
      have H4 := hid h4
      have H4' := hid h4'
      have HK := hid hbk
      have HK2 := hid hbk2
      clear hfn hgn h2 h3 h4 h2' h3' h4' hbk hbk2 HA h1 HNM HR HR2
      go_enter Try.func74, Try.ntmps74
      go_wp2_with fail
      refine wp_region_quiet_below (by kernel_rfl) (by kernel_rfl) ?_
      repeat (go_big_quiet_step (exact HC0.out _ _))
      refine wpQuiet_nil ?_
      intro w1 hw'
      obtain ⟨⟨dq, osq⟩, hw''⟩ := hw'
      have hb1 : Below w.heap.size w w1 := by subst hw''; exact below_regrown w dq osq
      clear hw''
      clear e0 d0 e1 d1 e2 d2 e3 d3 e4 d4 e5 d5 e6 d6 e7 d7 HC0
      have z0 := (hb1.cell (p := ⟨b1, o1, none⟩) XL.out).trans X0.out
      have z2 := (hb1.cell (p := ⟨b1, o1 + 2, none⟩) XL.out).trans X2.out
      have v2 := (hb1.cell (p := ⟨b2, o2 + 2, none⟩) YL.out).trans Y2.out
      go_wp2_with fail
      have f2 := cell_regrown z2
      have s2 := cell_regrown v2
      refine wp_region_quiet_below (by kernel_rfl) (by kernel_rfl) ?_
      repeat (go_big_quiet_step (fail))
      refine wpQuiet_nil ?_
      intro w3 hw'
      obtain ⟨⟨dq, osq⟩, hw''⟩ := hw'
      have hb3 : Below w1.heap.size w1 w3 := by subst hw''; exact below_regrown w1 dq osq
      clear hw''
      clear z0 z2 v2 f2 s2
      have HB3 := hid (hb1.trans (hb3.mono hb1.size))
      clear hb1 hb3
      go_wp2_with fail
      go_loopw [10] (fun i wr => ∃ (j : Nat), j ≤ ks1.length ∧ i = .int .i64 j ∧ Hid (∀ (i : Nat) t u, i < j → ks1[i]? = some t → ks2[i]? = some u → Tm.alpha t u (x ++ boundOf k1 n1 ns1 (0 + i)) (y ++ boundOf k2 n2 ns2 (0 + i)) = true) ∧ Hid (Below w.heap.size w wr)) (fun i _ => ks1.length - (intOf i).toNat)
      case atStart => exact ⟨0, by omega, rfl, fun i t u hi => absurd hi (by omega), HB3⟩
      case round =>
        obtain ⟨j, hj, rfl, HJ, HB⟩ := hrel
        have z7 := (HB.out.cell (p := ⟨b1, o1 + 7, none⟩) XL.out).trans X7.out
        by_cases hlt : j < ks1.length
        case neg =>
          have HE := hid (show Tm.alpha (Tm.mk k1 u1 n1 (Ty.mk tk1 tn1 tks1) ns1 ks1) (Tm.mk k2 u2 n2 (Ty.mk tk2 tn2 tks2) ns2 ks2) x y = true by rw [HAL.out]; exact Tm.alphas_yes _ _ _ _ _ _ _ _ _ _ _ (fun i t u h1 h2 => HJ.out i t u (by have := (List.getElem?_eq_some_iff.1 h1).1; omega) h1 h2))
          go_wp2_with fail
          go_ret
          exact ⟨ret_bool HE.out.symm, HB.out⟩
        case pos =>
          have hlt' : j < ks2.length := by have := H_c.out; omega
          obtain ⟨b, o, rfl, hbl, hall⟩ := H4.out (by omega)
          obtain ⟨b', o', rfl, hbl', hall'⟩ := H4'.out (by omega)
          obtain ⟨t, ht⟩ : ∃ t, ks1[j]? = some t := ⟨_, List.getElem?_eq_getElem hlt⟩
          obtain ⟨t', ht'⟩ : ∃ t, ks2[j]? = some t := ⟨_, List.getElem?_eq_getElem hlt'⟩
          obtain ⟨k3, u3, n3, ⟨tk3, tn3, tks3⟩, ns3, ks3⟩ := t
          obtain ⟨k4, u4, n4, ⟨tk4, tn4, tks4⟩, ns4, ks4⟩ := t'
          obtain ⟨atks3, ctks3, ans3, cns3, aks3, cks3, q0, q1, q2, q3, q4, q5, q6, q7, hrk⟩ := hall j k3 u3 n3 tk3 tn3 tks3 ns3 ks3 ht
          obtain ⟨atks4, ctks4, ans4, cns4, aks4, cks4, p0, p1, p2, p3, p4, p5, p6, p7, hrk'⟩ := hall' j k4 u4 n4 tk4 tn4 tks4 ns4 ks4 ht'
          have hbg := Tm.bulk_get ks1 j _ ht
          have hbg' := Tm.bulk_get ks2 j _ ht'
          have hb1l := boundOf_len' k1 n1 ns1 j
          have hb2l := boundOf_len' k2 n2 ns2 j
          have hle1 : x.length + (boundOf k1 n1 ns1 j).length ≤ 4194304 := by have := HK.out; have := HX.out; omega
          have hle2 : y.length + (boundOf k2 n2 ns2 j).length ≤ 4194304 := by have := HK2.out; have := HY.out; omega
          have hbn1 := fun (W : World) (hW : Below w.heap.size w W) => spec_binds k1 n1 ns1 ans1 cns1 b1 o1 j W ((hW.cell (p := ⟨b1, o1, none⟩) XL.out).trans X0.out) ((hW.cell (p := ⟨b1, o1 + 2, none⟩) XL.out).trans X2.out) ((hW.cell (p := ⟨b1, o1 + 6, none⟩) XL.out).trans X6.out) (HFN.out.below hW)
          have hbn2 := fun (W : World) (hW : Below w.heap.size w W) => spec_binds k2 n2 ns2 ans2 cns2 b2 o2 j W ((hW.cell (p := ⟨b2, o2, none⟩) YL.out).trans Y0.out) ((hW.cell (p := ⟨b2, o2 + 2, none⟩) YL.out).trans Y2.out) ((hW.cell (p := ⟨b2, o2 + 6, none⟩) YL.out).trans Y6.out) (HGN.out.below hW)
          have hc := fun va vb (W : World) (hW : Below w.heap.size w W) hs hs' => HIN.out k3 u3 n3 tk3 tn3 tks3 ns3 ks3 atks3 ctks3 ans3 cns3 aks3 cks3 k4 u4 n4 tk4 tn4 tks4 ns4 ks4 atks4 ctks4 ans4 cns4 aks4 cks4 b (o + j * 8) b' (o' + j * 8) (x ++ boundOf k1 n1 ns1 j) (y ++ boundOf k2 n2 ns2 j) va vb W (by have := HK.out; have := HN.out; omega) (by have := HK.out; have := HM.out; omega) (by have := HK2.out; have := HM2.out; omega) (by have := HK.out; have := HX.out; rw [List.length_append]; omega) (by have := HK2.out; have := HY.out; rw [List.length_append]; omega) ((hW.cell (p := ⟨b, o + j * 8, none⟩) hbl).trans q0) ((hW.cell (p := ⟨b, o + j * 8 + 1, none⟩) hbl).trans q1) ((hW.cell (p := ⟨b, o + j * 8 + 2, none⟩) hbl).trans q2) ((hW.cell (p := ⟨b, o + j * 8 + 3, none⟩) hbl).trans q3) ((hW.cell (p := ⟨b, o + j * 8 + 4, none⟩) hbl).trans q4) ((hW.cell (p := ⟨b, o + j * 8 + 5, none⟩) hbl).trans q5) ((hW.cell (p := ⟨b, o + j * 8 + 6, none⟩) hbl).trans q6) ((hW.cell (p := ⟨b, o + j * 8 + 7, none⟩) hbl).trans q7) ((hW.cell (p := ⟨b', o' + j * 8, none⟩) hbl').trans p0) ((hW.cell (p := ⟨b', o' + j * 8 + 1, none⟩) hbl').trans p1) ((hW.cell (p := ⟨b', o' + j * 8 + 2, none⟩) hbl').trans p2) ((hW.cell (p := ⟨b', o' + j * 8 + 3, none⟩) hbl').trans p3) ((hW.cell (p := ⟨b', o' + j * 8 + 4, none⟩) hbl').trans p4) ((hW.cell (p := ⟨b', o' + j * 8 + 5, none⟩) hbl').trans p5) ((hW.cell (p := ⟨b', o' + j * 8 + 6, none⟩) hbl').trans p6) ((hW.cell (p := ⟨b', o' + j * 8 + 7, none⟩) hbl').trans p7) (hrk.below hW) (hrk'.below hW) hs hs'
          generalize hbo : boundOf k1 n1 ns1 j = bs1 at hbn1 hc hle1
          generalize hbo2 : boundOf k2 n2 ns2 j = bs2 at hbn2 hc hle2
          have HBN1 := hid hbn1
          have HBN2 := hid hbn2
          generalize hq : Tm.alpha (Tm.mk k3 u3 n3 (Ty.mk tk3 tn3 tks3) ns3 ks3) (Tm.mk k4 u4 n4 (Ty.mk tk4 tn4 tks4) ns4 ks4) (x ++ bs1) (y ++ bs2) = r at hc
          have HC := hid hc
          have HLE1 := hid hle1
          have HLE2 := hid hle2
          have HR3 := hid (show Tm.alpha (Tm.mk k3 u3 n3 (Ty.mk tk3 tn3 tks3) ns3 ks3) (Tm.mk k4 u4 n4 (Ty.mk tk4 tn4 tks4) ns4 ks4) (x ++ boundOf k1 n1 ns1 (0 + j)) (y ++ boundOf k2 n2 ns2 (0 + j)) = r by rw [Nat.zero_add, hbo, hbo2]; exact hq)
          have HT := hid ht
          have HT' := hid ht'
          have hS : ∀ V : World, Below w.heap.size w V → ((fun V => Below w.heap.size w V ∧ V.cell? ⟨b1, o1, none⟩ = some (.int .i64 k1) ∧ V.cell? ⟨b1, o1 + 7, none⟩ = some (.slice (some ⟨b, o, none⟩) ks1.length cks1) ∧ V.cell? ⟨b2, o2 + 7, none⟩ = some (.slice (some ⟨b', o', none⟩) ks2.length cks2))) V := fun V hV => ⟨hV, (hV.cell (p := ⟨b1, o1, none⟩) XL.out).trans X0.out, (hV.cell (p := ⟨b1, o1 + 7, none⟩) XL.out).trans X7.out, (hV.cell (p := ⟨b2, o2 + 7, none⟩) YL.out).trans Y7.out⟩
          have HS := hid hS
          have hbd : Below w.heap.size w wr.drew := HB.out.drew
          have HLXD := hid (HLX.out.below hbd)
          have HLYD := hid (HLY.out.below hbd)
          have HSD := hid (hS _ hbd)
          obtain ⟨-, s0, s1, s2⟩ := hS _ hbd
          clear hall hall' H4 H4' q0 q1 q2 q3 q4 q5 q6 q7 p0 p1 p2 p3 p4 p5 p6 p7 hrk hrk' hbg hbg' hb1l hb2l hle1 hle2 hbn1 hbn2 hc hbo hbo2 hq ht ht' hS
          go_wp2_with fail
          clear z7
          go_region_held3 (fun V => Below w.heap.size w V ∧ V.cell? ⟨b1, o1, none⟩ = some (.int .i64 k1) ∧ V.cell? ⟨b1, o1 + 7, none⟩ = some (.slice (some ⟨b, o, none⟩) ks1.length cks1) ∧ V.cell? ⟨b2, o2 + 7, none⟩ = some (.slice (some ⟨b', o', none⟩) ks2.length cks2))
            (first | assumption | exact HSD.out | exact HS.out _ hbd | go_keep)
            (first
              | (go_at_call 123; (with_reducible refine (HBN1.out _ hbd).mono ?_); rintro e W2 ⟨vb, rfl, hsb, hb2⟩; have HSB := hid hsb; have HLXE := hid (HLXD.out.below hb2); have HLYE := hid (HLYD.out.below hb2); have hbd' := hbd.trans (hb2.mono hbd.size); clear hbd; have hbd := hbd'; clear hbd' hsb hb2 HBN1)
              | (go_at_call 122; (with_reducible refine (with_L _ _ _ _ _ HLXE.out HSB.out HLE1.out).mono ?_); rintro e W3 ⟨vw, rfl, how, hb3⟩; have HOW := hid (StrsL.of_own how); have HLYF := hid (HLYE.out.below hb3); have hbd' := hbd.trans (hb3.mono hbd.size); clear hbd; have hbd := hbd'; clear hbd' how hb3 HLXE HLE1)
              | (go_at_call 123; (with_reducible refine (HBN2.out _ hbd).mono ?_); rintro e W4 ⟨vb2, rfl, hsb, hb4⟩; have HSB2 := hid hsb; have HOW2 := hid (HOW.out.below hb4); have HLYG := hid (HLYF.out.below hb4); have hbd' := hbd.trans (hb4.mono hbd.size); clear hbd; have hbd := hbd'; clear hbd' hsb hb4 HBN2)
              | (go_at_call 122; (with_reducible refine (with_L _ _ _ _ _ HLYG.out HSB2.out HLE2.out).mono ?_); rintro e W5 ⟨vw2, rfl, how, hb5⟩; have HOW4 := hid (StrsL.of_own how); have HOW3 := hid (HOW2.out.below hb5); have hbd' := hbd.trans (hb5.mono hbd.size); clear hbd; have hbd := hbd'; clear hbd' how hb5 HLYG HLE2)
              | (go_at_call 74; (with_reducible refine (HC.out _ _ _ hbd ?_ ?_).mono ?_); (exact HOW3.out); (exact HOW4.out); rintro e W6 ⟨rfl, hb6⟩; have hbd' := hbd.trans (hb6.mono hbd.size); clear hbd; have hbd := hbd'; clear hbd' hb6))
          have HBZ := hid hbd
          clear hbd s0 s1 s2
          cases r
          case false =>
            have HE := hid (show Tm.alpha (Tm.mk k1 u1 n1 (Ty.mk tk1 tn1 tks1) ns1 ks1) (Tm.mk k2 u2 n2 (Ty.mk tk2 tn2 tks2) ns2 ks2) x y = false by rw [HAL.out]; exact Tm.alphas_no _ _ _ _ _ _ _ _ _ _ _ _ _ _ HT.out HT'.out HR3.out)
            go_wp2_with fail
            go_ret
            exact ⟨ret_bool HE.out.symm, HBZ.out⟩
          case true =>
            go_wp2_with fail
            go_roundw
            case rel =>
              refine ⟨j + 1, by omega, by go_num, hid fun i t u hi h1 h2 => ?_, HBZ⟩
              rcases Nat.lt_succ_iff_lt_or_eq.1 hi with hi | rfl
              · exact HJ.out i t u hi h1 h2
              · obtain rfl := Option.some.inj (h1.symm.trans HT.out)
                obtain rfl := Option.some.inj (h2.symm.trans HT'.out)
                exact HR3.out
            case measure => simp [intOf]; omega
  case neg =>
  have H8 := hid h8
  clear h8
  by_cases h8 : k1 = 10
  case pos =>
    by_cases hnn : n1 = n2
    case neg =>
      have hbn := bytes_ne hnn
      have g8 : (k1 == 8) = false := by simp [h8]
      have g10 : (k1 == 10) = true := by simp [h8]
      have HE := hid (show Tm.alpha (Tm.mk k1 u1 n1 (Ty.mk tk1 tn1 tks1) ns1 ks1) (Tm.mk k2 u2 n2 (Ty.mk tk2 tn2 tks2) ns2 ks2) x y = false by rw [HA.out, if_neg h1, if_pos ⟨by simp [h8], hnn⟩])
      clear HA h1 h8 hnn HIN HN HM HM2 HX HY HR HR2 X6 Y6 X7 Y7 HLX HLY H_k H_c
      go_enter Try.func74, Try.ntmps74
      go_wp2_with fail
      refine wp_region_quiet_below (by kernel_rfl) (by kernel_rfl) ?_
      repeat (go_big_quiet_step (exact HC0.out _ _))
      refine wpQuiet_nil ?_
      intro w1 hw'
      obtain ⟨⟨dq, osq⟩, hw''⟩ := hw'
      have hb1 : Below w.heap.size w w1 := by subst hw''; exact below_regrown w dq osq
      clear hw''
      clear e0 d0 e1 d1 e2 d2 e3 d3 e4 d4 e5 d5 e6 d6 e7 d7 HC0
      have z0 := (hb1.cell (p := ⟨b1, o1, none⟩) XL.out).trans X0.out
      have z2 := (hb1.cell (p := ⟨b1, o1 + 2, none⟩) XL.out).trans X2.out
      have v2 := (hb1.cell (p := ⟨b2, o2 + 2, none⟩) YL.out).trans Y2.out
      go_wp2_with fail
      have f2 := cell_regrown z2
      have s2 := cell_regrown v2
      refine wp_region_quiet_below (by kernel_rfl) (by kernel_rfl) ?_
      repeat (go_big_quiet_step (fail))
      refine wpQuiet_nil ?_
      intro w3 hw'
      obtain ⟨⟨dq, osq⟩, hw''⟩ := hw'
      have hb3 : Below w1.heap.size w1 w3 := by subst hw''; exact below_regrown w1 dq osq
      clear hw''
      clear z0 z2 v2 f2 s2
      go_wp2_with fail
      go_ret
      exact ⟨ret_bool HE.out.symm, hb1.trans (hb3.mono hb1.size)⟩
    case pos =>
      have hbn := bytes_eq hnn
      have HNM := hid (show ¬ ((k1 = 8 ∨ k1 = 10) ∧ n1 ≠ n2) from fun h => h.2 hnn)
      have g8 : (k1 == 8) = false := by simp [h8]
      have g10 : (k1 == 10) = true := by simp [h8]
      clear h8 hnn
      have HAL := hid (show Tm.alpha (Tm.mk k1 u1 n1 (Ty.mk tk1 tn1 tks1) ns1 ks1) (Tm.mk k2 u2 n2 (Ty.mk tk2 tn2 tks2) ns2 ks2) x y = Tm.alphas k1 n1 ns1 k2 n2 ns2 0 ks1 ks2 x y by rw [HA.out, if_neg h1, if_neg HNM.out])
      have hfn := HR.out.fTm.2.2.2.2.1
      have hgn := HR2.out.fTm.2.2.2.2.1
      obtain ⟨_, _, e, h2, h3, h4⟩ := HR.out.fTm.2.2.2.2.2.eTm
      simp only [Value.slice.injEq, true_and] at e
      obtain ⟨rfl, rfl⟩ := e
      obtain ⟨_, _, e, h2', h3', h4'⟩ := HR2.out.fTm.2.2.2.2.2.eTm
      simp only [Value.slice.injEq, true_and] at e
      obtain ⟨rfl, rfl⟩ := e
      have hbk : Tm.bulks ks1 + ns1.length ≤ Tm.bulk (Tm.mk k1 u1 n1 (Ty.mk tk1 tn1 tks1) ns1 ks1) := by have := Sr.bulks_length ns1; simp only [Tm.bulk]; omega
      have hbk2 : Tm.bulks ks2 + ns2.length ≤ Tm.bulk (Tm.mk k2 u2 n2 (Ty.mk tk2 tn2 tks2) ns2 ks2) := by have := Sr.bulks_length ns2; simp only [Tm.bulk]; omega
      have hlk : ks1.length ≤ 1048576 := by have := Tm.bulks_length ks1; have := HM.out; omega
      have HFN := hid hfn
      have HGN := hid hgn
      have H4 := hid h4
      have H4' := hid h4'
      have HK := hid hbk
      have HK2 := hid hbk2
      clear hfn hgn h2 h3 h4 h2' h3' h4' hbk hbk2 HA h1 HNM HR HR2
      go_enter Try.func74, Try.ntmps74
      go_wp2_with fail
      refine wp_region_quiet_below (by kernel_rfl) (by kernel_rfl) ?_
      repeat (go_big_quiet_step (exact HC0.out _ _))
      refine wpQuiet_nil ?_
      intro w1 hw'
      obtain ⟨⟨dq, osq⟩, hw''⟩ := hw'
      have hb1 : Below w.heap.size w w1 := by subst hw''; exact below_regrown w dq osq
      clear hw''
      clear e0 d0 e1 d1 e2 d2 e3 d3 e4 d4 e5 d5 e6 d6 e7 d7 HC0
      have z0 := (hb1.cell (p := ⟨b1, o1, none⟩) XL.out).trans X0.out
      have z2 := (hb1.cell (p := ⟨b1, o1 + 2, none⟩) XL.out).trans X2.out
      have v2 := (hb1.cell (p := ⟨b2, o2 + 2, none⟩) YL.out).trans Y2.out
      go_wp2_with fail
      have f2 := cell_regrown z2
      have s2 := cell_regrown v2
      refine wp_region_quiet_below (by kernel_rfl) (by kernel_rfl) ?_
      repeat (go_big_quiet_step (fail))
      refine wpQuiet_nil ?_
      intro w3 hw'
      obtain ⟨⟨dq, osq⟩, hw''⟩ := hw'
      have hb3 : Below w1.heap.size w1 w3 := by subst hw''; exact below_regrown w1 dq osq
      clear hw''
      clear z0 z2 v2 f2 s2
      have HB3 := hid (hb1.trans (hb3.mono hb1.size))
      clear hb1 hb3
      go_wp2_with fail
      go_loopw [10] (fun i wr => ∃ (j : Nat), j ≤ ks1.length ∧ i = .int .i64 j ∧ Hid (∀ (i : Nat) t u, i < j → ks1[i]? = some t → ks2[i]? = some u → Tm.alpha t u (x ++ boundOf k1 n1 ns1 (0 + i)) (y ++ boundOf k2 n2 ns2 (0 + i)) = true) ∧ Hid (Below w.heap.size w wr)) (fun i _ => ks1.length - (intOf i).toNat)
      case atStart => exact ⟨0, by omega, rfl, fun i t u hi => absurd hi (by omega), HB3⟩
      case round =>
        obtain ⟨j, hj, rfl, HJ, HB⟩ := hrel
        have z7 := (HB.out.cell (p := ⟨b1, o1 + 7, none⟩) XL.out).trans X7.out
        by_cases hlt : j < ks1.length
        case neg =>
          have HE := hid (show Tm.alpha (Tm.mk k1 u1 n1 (Ty.mk tk1 tn1 tks1) ns1 ks1) (Tm.mk k2 u2 n2 (Ty.mk tk2 tn2 tks2) ns2 ks2) x y = true by rw [HAL.out]; exact Tm.alphas_yes _ _ _ _ _ _ _ _ _ _ _ (fun i t u h1 h2 => HJ.out i t u (by have := (List.getElem?_eq_some_iff.1 h1).1; omega) h1 h2))
          go_wp2_with fail
          go_ret
          exact ⟨ret_bool HE.out.symm, HB.out⟩
        case pos =>
          have hlt' : j < ks2.length := by have := H_c.out; omega
          obtain ⟨b, o, rfl, hbl, hall⟩ := H4.out (by omega)
          obtain ⟨b', o', rfl, hbl', hall'⟩ := H4'.out (by omega)
          obtain ⟨t, ht⟩ : ∃ t, ks1[j]? = some t := ⟨_, List.getElem?_eq_getElem hlt⟩
          obtain ⟨t', ht'⟩ : ∃ t, ks2[j]? = some t := ⟨_, List.getElem?_eq_getElem hlt'⟩
          obtain ⟨k3, u3, n3, ⟨tk3, tn3, tks3⟩, ns3, ks3⟩ := t
          obtain ⟨k4, u4, n4, ⟨tk4, tn4, tks4⟩, ns4, ks4⟩ := t'
          obtain ⟨atks3, ctks3, ans3, cns3, aks3, cks3, q0, q1, q2, q3, q4, q5, q6, q7, hrk⟩ := hall j k3 u3 n3 tk3 tn3 tks3 ns3 ks3 ht
          obtain ⟨atks4, ctks4, ans4, cns4, aks4, cks4, p0, p1, p2, p3, p4, p5, p6, p7, hrk'⟩ := hall' j k4 u4 n4 tk4 tn4 tks4 ns4 ks4 ht'
          have hbg := Tm.bulk_get ks1 j _ ht
          have hbg' := Tm.bulk_get ks2 j _ ht'
          have hb1l := boundOf_len' k1 n1 ns1 j
          have hb2l := boundOf_len' k2 n2 ns2 j
          have hle1 : x.length + (boundOf k1 n1 ns1 j).length ≤ 4194304 := by have := HK.out; have := HX.out; omega
          have hle2 : y.length + (boundOf k2 n2 ns2 j).length ≤ 4194304 := by have := HK2.out; have := HY.out; omega
          have hbn1 := fun (W : World) (hW : Below w.heap.size w W) => spec_binds k1 n1 ns1 ans1 cns1 b1 o1 j W ((hW.cell (p := ⟨b1, o1, none⟩) XL.out).trans X0.out) ((hW.cell (p := ⟨b1, o1 + 2, none⟩) XL.out).trans X2.out) ((hW.cell (p := ⟨b1, o1 + 6, none⟩) XL.out).trans X6.out) (HFN.out.below hW)
          have hbn2 := fun (W : World) (hW : Below w.heap.size w W) => spec_binds k2 n2 ns2 ans2 cns2 b2 o2 j W ((hW.cell (p := ⟨b2, o2, none⟩) YL.out).trans Y0.out) ((hW.cell (p := ⟨b2, o2 + 2, none⟩) YL.out).trans Y2.out) ((hW.cell (p := ⟨b2, o2 + 6, none⟩) YL.out).trans Y6.out) (HGN.out.below hW)
          have hc := fun va vb (W : World) (hW : Below w.heap.size w W) hs hs' => HIN.out k3 u3 n3 tk3 tn3 tks3 ns3 ks3 atks3 ctks3 ans3 cns3 aks3 cks3 k4 u4 n4 tk4 tn4 tks4 ns4 ks4 atks4 ctks4 ans4 cns4 aks4 cks4 b (o + j * 8) b' (o' + j * 8) (x ++ boundOf k1 n1 ns1 j) (y ++ boundOf k2 n2 ns2 j) va vb W (by have := HK.out; have := HN.out; omega) (by have := HK.out; have := HM.out; omega) (by have := HK2.out; have := HM2.out; omega) (by have := HK.out; have := HX.out; rw [List.length_append]; omega) (by have := HK2.out; have := HY.out; rw [List.length_append]; omega) ((hW.cell (p := ⟨b, o + j * 8, none⟩) hbl).trans q0) ((hW.cell (p := ⟨b, o + j * 8 + 1, none⟩) hbl).trans q1) ((hW.cell (p := ⟨b, o + j * 8 + 2, none⟩) hbl).trans q2) ((hW.cell (p := ⟨b, o + j * 8 + 3, none⟩) hbl).trans q3) ((hW.cell (p := ⟨b, o + j * 8 + 4, none⟩) hbl).trans q4) ((hW.cell (p := ⟨b, o + j * 8 + 5, none⟩) hbl).trans q5) ((hW.cell (p := ⟨b, o + j * 8 + 6, none⟩) hbl).trans q6) ((hW.cell (p := ⟨b, o + j * 8 + 7, none⟩) hbl).trans q7) ((hW.cell (p := ⟨b', o' + j * 8, none⟩) hbl').trans p0) ((hW.cell (p := ⟨b', o' + j * 8 + 1, none⟩) hbl').trans p1) ((hW.cell (p := ⟨b', o' + j * 8 + 2, none⟩) hbl').trans p2) ((hW.cell (p := ⟨b', o' + j * 8 + 3, none⟩) hbl').trans p3) ((hW.cell (p := ⟨b', o' + j * 8 + 4, none⟩) hbl').trans p4) ((hW.cell (p := ⟨b', o' + j * 8 + 5, none⟩) hbl').trans p5) ((hW.cell (p := ⟨b', o' + j * 8 + 6, none⟩) hbl').trans p6) ((hW.cell (p := ⟨b', o' + j * 8 + 7, none⟩) hbl').trans p7) (hrk.below hW) (hrk'.below hW) hs hs'
          generalize hbo : boundOf k1 n1 ns1 j = bs1 at hbn1 hc hle1
          generalize hbo2 : boundOf k2 n2 ns2 j = bs2 at hbn2 hc hle2
          have HBN1 := hid hbn1
          have HBN2 := hid hbn2
          generalize hq : Tm.alpha (Tm.mk k3 u3 n3 (Ty.mk tk3 tn3 tks3) ns3 ks3) (Tm.mk k4 u4 n4 (Ty.mk tk4 tn4 tks4) ns4 ks4) (x ++ bs1) (y ++ bs2) = r at hc
          have HC := hid hc
          have HLE1 := hid hle1
          have HLE2 := hid hle2
          have HR3 := hid (show Tm.alpha (Tm.mk k3 u3 n3 (Ty.mk tk3 tn3 tks3) ns3 ks3) (Tm.mk k4 u4 n4 (Ty.mk tk4 tn4 tks4) ns4 ks4) (x ++ boundOf k1 n1 ns1 (0 + j)) (y ++ boundOf k2 n2 ns2 (0 + j)) = r by rw [Nat.zero_add, hbo, hbo2]; exact hq)
          have HT := hid ht
          have HT' := hid ht'
          have hS : ∀ V : World, Below w.heap.size w V → ((fun V => Below w.heap.size w V ∧ V.cell? ⟨b1, o1, none⟩ = some (.int .i64 k1) ∧ V.cell? ⟨b1, o1 + 7, none⟩ = some (.slice (some ⟨b, o, none⟩) ks1.length cks1) ∧ V.cell? ⟨b2, o2 + 7, none⟩ = some (.slice (some ⟨b', o', none⟩) ks2.length cks2))) V := fun V hV => ⟨hV, (hV.cell (p := ⟨b1, o1, none⟩) XL.out).trans X0.out, (hV.cell (p := ⟨b1, o1 + 7, none⟩) XL.out).trans X7.out, (hV.cell (p := ⟨b2, o2 + 7, none⟩) YL.out).trans Y7.out⟩
          have HS := hid hS
          have hbd : Below w.heap.size w wr.drew := HB.out.drew
          have HLXD := hid (HLX.out.below hbd)
          have HLYD := hid (HLY.out.below hbd)
          have HSD := hid (hS _ hbd)
          obtain ⟨-, s0, s1, s2⟩ := hS _ hbd
          clear hall hall' H4 H4' q0 q1 q2 q3 q4 q5 q6 q7 p0 p1 p2 p3 p4 p5 p6 p7 hrk hrk' hbg hbg' hb1l hb2l hle1 hle2 hbn1 hbn2 hc hbo hbo2 hq ht ht' hS
          go_wp2_with fail
          clear z7
          go_region_held3 (fun V => Below w.heap.size w V ∧ V.cell? ⟨b1, o1, none⟩ = some (.int .i64 k1) ∧ V.cell? ⟨b1, o1 + 7, none⟩ = some (.slice (some ⟨b, o, none⟩) ks1.length cks1) ∧ V.cell? ⟨b2, o2 + 7, none⟩ = some (.slice (some ⟨b', o', none⟩) ks2.length cks2))
            (first | assumption | exact HSD.out | exact HS.out _ hbd | go_keep)
            (first
              | (go_at_call 123; (with_reducible refine (HBN1.out _ hbd).mono ?_); rintro e W2 ⟨vb, rfl, hsb, hb2⟩; have HSB := hid hsb; have HLXE := hid (HLXD.out.below hb2); have HLYE := hid (HLYD.out.below hb2); have hbd' := hbd.trans (hb2.mono hbd.size); clear hbd; have hbd := hbd'; clear hbd' hsb hb2 HBN1)
              | (go_at_call 122; (with_reducible refine (with_L _ _ _ _ _ HLXE.out HSB.out HLE1.out).mono ?_); rintro e W3 ⟨vw, rfl, how, hb3⟩; have HOW := hid (StrsL.of_own how); have HLYF := hid (HLYE.out.below hb3); have hbd' := hbd.trans (hb3.mono hbd.size); clear hbd; have hbd := hbd'; clear hbd' how hb3 HLXE HLE1)
              | (go_at_call 123; (with_reducible refine (HBN2.out _ hbd).mono ?_); rintro e W4 ⟨vb2, rfl, hsb, hb4⟩; have HSB2 := hid hsb; have HOW2 := hid (HOW.out.below hb4); have HLYG := hid (HLYF.out.below hb4); have hbd' := hbd.trans (hb4.mono hbd.size); clear hbd; have hbd := hbd'; clear hbd' hsb hb4 HBN2)
              | (go_at_call 122; (with_reducible refine (with_L _ _ _ _ _ HLYG.out HSB2.out HLE2.out).mono ?_); rintro e W5 ⟨vw2, rfl, how, hb5⟩; have HOW4 := hid (StrsL.of_own how); have HOW3 := hid (HOW2.out.below hb5); have hbd' := hbd.trans (hb5.mono hbd.size); clear hbd; have hbd := hbd'; clear hbd' how hb5 HLYG HLE2)
              | (go_at_call 74; (with_reducible refine (HC.out _ _ _ hbd ?_ ?_).mono ?_); (exact HOW3.out); (exact HOW4.out); rintro e W6 ⟨rfl, hb6⟩; have hbd' := hbd.trans (hb6.mono hbd.size); clear hbd; have hbd := hbd'; clear hbd' hb6))
          have HBZ := hid hbd
          clear hbd s0 s1 s2
          cases r
          case false =>
            have HE := hid (show Tm.alpha (Tm.mk k1 u1 n1 (Ty.mk tk1 tn1 tks1) ns1 ks1) (Tm.mk k2 u2 n2 (Ty.mk tk2 tn2 tks2) ns2 ks2) x y = false by rw [HAL.out]; exact Tm.alphas_no _ _ _ _ _ _ _ _ _ _ _ _ _ _ HT.out HT'.out HR3.out)
            go_wp2_with fail
            go_ret
            exact ⟨ret_bool HE.out.symm, HBZ.out⟩
          case true =>
            go_wp2_with fail
            go_roundw
            case rel =>
              refine ⟨j + 1, by omega, by go_num, hid fun i t u hi h1 h2 => ?_, HBZ⟩
              rcases Nat.lt_succ_iff_lt_or_eq.1 hi with hi | rfl
              · exact HJ.out i t u hi h1 h2
              · obtain rfl := Option.some.inj (h1.symm.trans HT.out)
                obtain rfl := Option.some.inj (h2.symm.trans HT'.out)
                exact HR3.out
            case measure => simp [intOf]; omega
  case neg =>
  have H10 := hid h8
  clear h8
  have g8 : (k1 == 8) = false := by have := H8.out; simpa using this
  have g10 : (k1 == 10) = false := by have := H10.out; simpa using this
  have HNM := hid (show ¬ ((k1 = 8 ∨ k1 = 10) ∧ n1 ≠ n2) from fun h => h.1.elim H8.out H10.out)
  have HAL := hid (show Tm.alpha (Tm.mk k1 u1 n1 (Ty.mk tk1 tn1 tks1) ns1 ks1) (Tm.mk k2 u2 n2 (Ty.mk tk2 tn2 tks2) ns2 ks2) x y = Tm.alphas k1 n1 ns1 k2 n2 ns2 0 ks1 ks2 x y by rw [HA.out, if_neg h1, if_neg HNM.out])
  have hfn := HR.out.fTm.2.2.2.2.1
  have hgn := HR2.out.fTm.2.2.2.2.1
  obtain ⟨_, _, e, h2, h3, h4⟩ := HR.out.fTm.2.2.2.2.2.eTm
  simp only [Value.slice.injEq, true_and] at e
  obtain ⟨rfl, rfl⟩ := e
  obtain ⟨_, _, e, h2', h3', h4'⟩ := HR2.out.fTm.2.2.2.2.2.eTm
  simp only [Value.slice.injEq, true_and] at e
  obtain ⟨rfl, rfl⟩ := e
  have hbk : Tm.bulks ks1 + ns1.length ≤ Tm.bulk (Tm.mk k1 u1 n1 (Ty.mk tk1 tn1 tks1) ns1 ks1) := by have := Sr.bulks_length ns1; simp only [Tm.bulk]; omega
  have hbk2 : Tm.bulks ks2 + ns2.length ≤ Tm.bulk (Tm.mk k2 u2 n2 (Ty.mk tk2 tn2 tks2) ns2 ks2) := by have := Sr.bulks_length ns2; simp only [Tm.bulk]; omega
  have hlk : ks1.length ≤ 1048576 := by have := Tm.bulks_length ks1; have := HM.out; omega
  have HFN := hid hfn
  have HGN := hid hgn
  have H4 := hid h4
  have H4' := hid h4'
  have HK := hid hbk
  have HK2 := hid hbk2
  clear hfn hgn h2 h3 h4 h2' h3' h4' hbk hbk2 HA h1 HNM HR HR2
  go_enter Try.func74, Try.ntmps74
  go_wp2_with fail
  refine wp_region_quiet_below (by kernel_rfl) (by kernel_rfl) ?_
  repeat (go_big_quiet_step (exact HC0.out _ _))
  refine wpQuiet_nil ?_
  intro w1 hw'
  obtain ⟨⟨dq, osq⟩, hw''⟩ := hw'
  have hb1 : Below w.heap.size w w1 := by subst hw''; exact below_regrown w dq osq
  clear hw''
  clear e0 d0 e1 d1 e2 d2 e3 d3 e4 d4 e5 d5 e6 d6 e7 d7 HC0
  have z0 := (hb1.cell (p := ⟨b1, o1, none⟩) XL.out).trans X0.out
  go_wp2_with fail
  clear z0
  have HB3 := hid hb1
  clear hb1
  go_loopw [10] (fun i wr => ∃ (j : Nat), j ≤ ks1.length ∧ i = .int .i64 j ∧ Hid (∀ (i : Nat) t u, i < j → ks1[i]? = some t → ks2[i]? = some u → Tm.alpha t u (x ++ boundOf k1 n1 ns1 (0 + i)) (y ++ boundOf k2 n2 ns2 (0 + i)) = true) ∧ Hid (Below w.heap.size w wr)) (fun i _ => ks1.length - (intOf i).toNat)
  case atStart => exact ⟨0, by omega, rfl, fun i t u hi => absurd hi (by omega), HB3⟩
  case round =>
    obtain ⟨j, hj, rfl, HJ, HB⟩ := hrel
    have z7 := (HB.out.cell (p := ⟨b1, o1 + 7, none⟩) XL.out).trans X7.out
    by_cases hlt : j < ks1.length
    case neg =>
      have HE := hid (show Tm.alpha (Tm.mk k1 u1 n1 (Ty.mk tk1 tn1 tks1) ns1 ks1) (Tm.mk k2 u2 n2 (Ty.mk tk2 tn2 tks2) ns2 ks2) x y = true by rw [HAL.out]; exact Tm.alphas_yes _ _ _ _ _ _ _ _ _ _ _ (fun i t u h1 h2 => HJ.out i t u (by have := (List.getElem?_eq_some_iff.1 h1).1; omega) h1 h2))
      go_wp2_with fail
      go_ret
      exact ⟨ret_bool HE.out.symm, HB.out⟩
    case pos =>
      have hlt' : j < ks2.length := by have := H_c.out; omega
      obtain ⟨b, o, rfl, hbl, hall⟩ := H4.out (by omega)
      obtain ⟨b', o', rfl, hbl', hall'⟩ := H4'.out (by omega)
      obtain ⟨t, ht⟩ : ∃ t, ks1[j]? = some t := ⟨_, List.getElem?_eq_getElem hlt⟩
      obtain ⟨t', ht'⟩ : ∃ t, ks2[j]? = some t := ⟨_, List.getElem?_eq_getElem hlt'⟩
      obtain ⟨k3, u3, n3, ⟨tk3, tn3, tks3⟩, ns3, ks3⟩ := t
      obtain ⟨k4, u4, n4, ⟨tk4, tn4, tks4⟩, ns4, ks4⟩ := t'
      obtain ⟨atks3, ctks3, ans3, cns3, aks3, cks3, q0, q1, q2, q3, q4, q5, q6, q7, hrk⟩ := hall j k3 u3 n3 tk3 tn3 tks3 ns3 ks3 ht
      obtain ⟨atks4, ctks4, ans4, cns4, aks4, cks4, p0, p1, p2, p3, p4, p5, p6, p7, hrk'⟩ := hall' j k4 u4 n4 tk4 tn4 tks4 ns4 ks4 ht'
      have hbg := Tm.bulk_get ks1 j _ ht
      have hbg' := Tm.bulk_get ks2 j _ ht'
      have hb1l := boundOf_len' k1 n1 ns1 j
      have hb2l := boundOf_len' k2 n2 ns2 j
      have hle1 : x.length + (boundOf k1 n1 ns1 j).length ≤ 4194304 := by have := HK.out; have := HX.out; omega
      have hle2 : y.length + (boundOf k2 n2 ns2 j).length ≤ 4194304 := by have := HK2.out; have := HY.out; omega
      have hbn1 := fun (W : World) (hW : Below w.heap.size w W) => spec_binds k1 n1 ns1 ans1 cns1 b1 o1 j W ((hW.cell (p := ⟨b1, o1, none⟩) XL.out).trans X0.out) ((hW.cell (p := ⟨b1, o1 + 2, none⟩) XL.out).trans X2.out) ((hW.cell (p := ⟨b1, o1 + 6, none⟩) XL.out).trans X6.out) (HFN.out.below hW)
      have hbn2 := fun (W : World) (hW : Below w.heap.size w W) => spec_binds k2 n2 ns2 ans2 cns2 b2 o2 j W ((hW.cell (p := ⟨b2, o2, none⟩) YL.out).trans Y0.out) ((hW.cell (p := ⟨b2, o2 + 2, none⟩) YL.out).trans Y2.out) ((hW.cell (p := ⟨b2, o2 + 6, none⟩) YL.out).trans Y6.out) (HGN.out.below hW)
      have hc := fun va vb (W : World) (hW : Below w.heap.size w W) hs hs' => HIN.out k3 u3 n3 tk3 tn3 tks3 ns3 ks3 atks3 ctks3 ans3 cns3 aks3 cks3 k4 u4 n4 tk4 tn4 tks4 ns4 ks4 atks4 ctks4 ans4 cns4 aks4 cks4 b (o + j * 8) b' (o' + j * 8) (x ++ boundOf k1 n1 ns1 j) (y ++ boundOf k2 n2 ns2 j) va vb W (by have := HK.out; have := HN.out; omega) (by have := HK.out; have := HM.out; omega) (by have := HK2.out; have := HM2.out; omega) (by have := HK.out; have := HX.out; rw [List.length_append]; omega) (by have := HK2.out; have := HY.out; rw [List.length_append]; omega) ((hW.cell (p := ⟨b, o + j * 8, none⟩) hbl).trans q0) ((hW.cell (p := ⟨b, o + j * 8 + 1, none⟩) hbl).trans q1) ((hW.cell (p := ⟨b, o + j * 8 + 2, none⟩) hbl).trans q2) ((hW.cell (p := ⟨b, o + j * 8 + 3, none⟩) hbl).trans q3) ((hW.cell (p := ⟨b, o + j * 8 + 4, none⟩) hbl).trans q4) ((hW.cell (p := ⟨b, o + j * 8 + 5, none⟩) hbl).trans q5) ((hW.cell (p := ⟨b, o + j * 8 + 6, none⟩) hbl).trans q6) ((hW.cell (p := ⟨b, o + j * 8 + 7, none⟩) hbl).trans q7) ((hW.cell (p := ⟨b', o' + j * 8, none⟩) hbl').trans p0) ((hW.cell (p := ⟨b', o' + j * 8 + 1, none⟩) hbl').trans p1) ((hW.cell (p := ⟨b', o' + j * 8 + 2, none⟩) hbl').trans p2) ((hW.cell (p := ⟨b', o' + j * 8 + 3, none⟩) hbl').trans p3) ((hW.cell (p := ⟨b', o' + j * 8 + 4, none⟩) hbl').trans p4) ((hW.cell (p := ⟨b', o' + j * 8 + 5, none⟩) hbl').trans p5) ((hW.cell (p := ⟨b', o' + j * 8 + 6, none⟩) hbl').trans p6) ((hW.cell (p := ⟨b', o' + j * 8 + 7, none⟩) hbl').trans p7) (hrk.below hW) (hrk'.below hW) hs hs'
      generalize hbo : boundOf k1 n1 ns1 j = bs1 at hbn1 hc hle1
      generalize hbo2 : boundOf k2 n2 ns2 j = bs2 at hbn2 hc hle2
      have HBN1 := hid hbn1
      have HBN2 := hid hbn2
      generalize hq : Tm.alpha (Tm.mk k3 u3 n3 (Ty.mk tk3 tn3 tks3) ns3 ks3) (Tm.mk k4 u4 n4 (Ty.mk tk4 tn4 tks4) ns4 ks4) (x ++ bs1) (y ++ bs2) = r at hc
      have HC := hid hc
      have HLE1 := hid hle1
      have HLE2 := hid hle2
      have HR3 := hid (show Tm.alpha (Tm.mk k3 u3 n3 (Ty.mk tk3 tn3 tks3) ns3 ks3) (Tm.mk k4 u4 n4 (Ty.mk tk4 tn4 tks4) ns4 ks4) (x ++ boundOf k1 n1 ns1 (0 + j)) (y ++ boundOf k2 n2 ns2 (0 + j)) = r by rw [Nat.zero_add, hbo, hbo2]; exact hq)
      have HT := hid ht
      have HT' := hid ht'
      have hS : ∀ V : World, Below w.heap.size w V → ((fun V => Below w.heap.size w V ∧ V.cell? ⟨b1, o1, none⟩ = some (.int .i64 k1) ∧ V.cell? ⟨b1, o1 + 7, none⟩ = some (.slice (some ⟨b, o, none⟩) ks1.length cks1) ∧ V.cell? ⟨b2, o2 + 7, none⟩ = some (.slice (some ⟨b', o', none⟩) ks2.length cks2))) V := fun V hV => ⟨hV, (hV.cell (p := ⟨b1, o1, none⟩) XL.out).trans X0.out, (hV.cell (p := ⟨b1, o1 + 7, none⟩) XL.out).trans X7.out, (hV.cell (p := ⟨b2, o2 + 7, none⟩) YL.out).trans Y7.out⟩
      have HS := hid hS
      have hbd : Below w.heap.size w wr.drew := HB.out.drew
      have HLXD := hid (HLX.out.below hbd)
      have HLYD := hid (HLY.out.below hbd)
      have HSD := hid (hS _ hbd)
      obtain ⟨-, s0, s1, s2⟩ := hS _ hbd
      clear hall hall' H4 H4' q0 q1 q2 q3 q4 q5 q6 q7 p0 p1 p2 p3 p4 p5 p6 p7 hrk hrk' hbg hbg' hb1l hb2l hle1 hle2 hbn1 hbn2 hc hbo hbo2 hq ht ht' hS
      go_wp2_with fail
      clear z7
      go_region_held3 (fun V => Below w.heap.size w V ∧ V.cell? ⟨b1, o1, none⟩ = some (.int .i64 k1) ∧ V.cell? ⟨b1, o1 + 7, none⟩ = some (.slice (some ⟨b, o, none⟩) ks1.length cks1) ∧ V.cell? ⟨b2, o2 + 7, none⟩ = some (.slice (some ⟨b', o', none⟩) ks2.length cks2))
        (first | assumption | exact HSD.out | exact HS.out _ hbd | go_keep)
        (first
          | (go_at_call 123; (with_reducible refine (HBN1.out _ hbd).mono ?_); rintro e W2 ⟨vb, rfl, hsb, hb2⟩; have HSB := hid hsb; have HLXE := hid (HLXD.out.below hb2); have HLYE := hid (HLYD.out.below hb2); have hbd' := hbd.trans (hb2.mono hbd.size); clear hbd; have hbd := hbd'; clear hbd' hsb hb2 HBN1)
          | (go_at_call 122; (with_reducible refine (with_L _ _ _ _ _ HLXE.out HSB.out HLE1.out).mono ?_); rintro e W3 ⟨vw, rfl, how, hb3⟩; have HOW := hid (StrsL.of_own how); have HLYF := hid (HLYE.out.below hb3); have hbd' := hbd.trans (hb3.mono hbd.size); clear hbd; have hbd := hbd'; clear hbd' how hb3 HLXE HLE1)
          | (go_at_call 123; (with_reducible refine (HBN2.out _ hbd).mono ?_); rintro e W4 ⟨vb2, rfl, hsb, hb4⟩; have HSB2 := hid hsb; have HOW2 := hid (HOW.out.below hb4); have HLYG := hid (HLYF.out.below hb4); have hbd' := hbd.trans (hb4.mono hbd.size); clear hbd; have hbd := hbd'; clear hbd' hsb hb4 HBN2)
          | (go_at_call 122; (with_reducible refine (with_L _ _ _ _ _ HLYG.out HSB2.out HLE2.out).mono ?_); rintro e W5 ⟨vw2, rfl, how, hb5⟩; have HOW4 := hid (StrsL.of_own how); have HOW3 := hid (HOW2.out.below hb5); have hbd' := hbd.trans (hb5.mono hbd.size); clear hbd; have hbd := hbd'; clear hbd' how hb5 HLYG HLE2)
          | (go_at_call 74; (with_reducible refine (HC.out _ _ _ hbd ?_ ?_).mono ?_); (exact HOW3.out); (exact HOW4.out); rintro e W6 ⟨rfl, hb6⟩; have hbd' := hbd.trans (hb6.mono hbd.size); clear hbd; have hbd := hbd'; clear hbd' hb6))
      have HBZ := hid hbd
      clear hbd s0 s1 s2
      cases r
      case false =>
        have HE := hid (show Tm.alpha (Tm.mk k1 u1 n1 (Ty.mk tk1 tn1 tks1) ns1 ks1) (Tm.mk k2 u2 n2 (Ty.mk tk2 tn2 tks2) ns2 ks2) x y = false by rw [HAL.out]; exact Tm.alphas_no _ _ _ _ _ _ _ _ _ _ _ _ _ _ HT.out HT'.out HR3.out)
        go_wp2_with fail
        go_ret
        exact ⟨ret_bool HE.out.symm, HBZ.out⟩
      case true =>
        go_wp2_with fail
        go_roundw
        case rel =>
          refine ⟨j + 1, by omega, by go_num, hid fun i t u hi h1 h2 => ?_, HBZ⟩
          rcases Nat.lt_succ_iff_lt_or_eq.1 hi with hi | rfl
          · exact HJ.out i t u hi h1 h2
          · obtain rfl := Option.some.inj (h1.symm.trans HT.out)
            obtain rfl := Option.some.inj (h2.symm.trans HT'.out)
            exact HR3.out
        case measure => simp [intOf]; omega
theorem l03Alpha_all : ∀ N, AlW N
  | 0 => fun  _ _ _ _ _ _ _ _ _ _ _ _ _ _ _ _ _ _ _ _ _ _ _ _ _ _ _ _ _ _ _ _ _ _ _ _ _ h => absurd h (by omega)
  | N + 1 => l03Alpha_step N (l03Alpha_all N)
end Go.Proofs.Ytgpefnlpbjnjbaa
