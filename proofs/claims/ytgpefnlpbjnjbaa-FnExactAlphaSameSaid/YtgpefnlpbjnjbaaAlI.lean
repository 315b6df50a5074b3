/- Walks: alphaSame of the program. No condition. -/
import Derived.Test.YtgpefnlpbjnjbaaAlP
import Derived.Test.YtgpefnlpbjnjbaaNmG
import Derived.Test.YtgpefnlpbjnjbaaTmFits
import Derived.Deep.RegionHeld3
namespace Go.Proofs.Ytgpefnlpbjnjbaa
open Go.ChangeShapes Go.WideShapes Go.ChangeAt Go.RowKit Go.BigFrame
open Go.Sort (grow)
set_option linter.unusedVariables false

theorem two_newA (w : World) (a b : Value) (t : TypeId) : (w.alloc (.cells #[a, b] t)).cell? ⟨w.heap.size, 0, none⟩ = some a := by
  have h : (w.alloc (.cells #[a, b] t)).heap[w.heap.size]? = some (.cells #[a, b] t) := heap_alloc_new w _
  exact heap_cell h (j := 0) rfl
theorem two_newB (w : World) (a b : Value) (t : TypeId) : (w.alloc (.cells #[a, b] t)).cell? ⟨w.heap.size, 1, none⟩ = some b := by
  have h : (w.alloc (.cells #[a, b] t)).heap[w.heap.size]? = some (.cells #[a, b] t) := heap_alloc_new w _
  exact heap_cell h (j := 1) rfl
theorem boxes2 (w : World) (a b : Obj) : ((w.alloc a).alloc b).heap[w.heap.size]? = some a ∧ ((w.alloc a).alloc b).heap[w.heap.size + 1]? = some b ∧ ((w.alloc a).alloc b).heap.size = w.heap.size + 2 ∧ Below w.heap.size w ((w.alloc a).alloc b) := by
  have h1 := heap_alloc_new w a
  have h2 := heap_alloc_new (w.alloc a) b
  simp only [World.size_alloc] at h2
  refine ⟨?_, h2, by simp, ((Below.refl _ _).alloc (Nat.le_refl _) _).alloc (by simp) _⟩
  rw [Below.heap_alloc _ _ _ (by simp)]; exact h1
theorem lastI_L (ns : List ByteArray) (v : Value) (s : ByteArray) (w : World) (h : StrsL w ns v) :
    Calls Try.prog 126 #[v, .string s] w fun e w' => e = .returned (.int .i64 (lastAt s ns)) ∧ w = w' := by
  obtain ⟨a, c, rfl, h2, h3, h4⟩ := h
  have hlen : ns.length ≤ 9223372036854775807 := Nat.le_trans h2 h3
  have H4 := hid h4
  clear h4 h2 h3
  go_enter Try.func126, Try.ntmps126
  go_wp2_with fail
  go_loopw [5] (fun i wr => ∃ (j : Nat) (x : Int), j ≤ ns.length ∧ x = (j : Int) - 1 ∧ i = .int .i64 x ∧ Hid (∀ (i : Nat) t, j ≤ i → ns[i]? = some t → t ≠ s) ∧ w = wr) (fun i _ => (intOf i + 1).toNat)
  case atStart => exact ⟨ns.length, (ns.length : Int) - 1, by omega, rfl, by go_num, fun i t hi hti => absurd (List.getElem?_eq_some_iff.1 hti).1 (by omega), rfl⟩
  case round =>
    obtain ⟨j, x, hj, hx, rfl, HJ, rfl⟩ := hrel
    rcases j with _ | m
    · obtain rfl : x = -1 := by simpa using hx
      clear hx
      go_wp2_with fail
      go_ret
      exact ⟨ret_int (by rw [lastAt_no s ns fun i t hti => HJ.out i t (by omega) hti]), rfl⟩
    · obtain rfl : x = (m : Int) := by omega
      clear hx
      have hlt : m < ns.length := by omega
      obtain ⟨b, o, rfl, hbl, hall⟩ := H4.out (by omega)
      obtain ⟨t, ht⟩ : ∃ t, ns[m]? = some t := ⟨_, List.getElem?_eq_getElem hlt⟩
      have c0 := hall m t ht
      clear hall H4
      have HT := hid ht
      by_cases hq : t = s
      · have hb := bytes_eq hq
        have HQ := hid hq
        clear hq ht
        go_wp2_with fail
        go_ret
        exact ⟨ret_int (by rw [lastAt_yes s ns m (by rw [HT.out, HQ.out]) fun i t hi hti => HJ.out i t hi hti]), rfl⟩
      · have hb := bytes_ne hq
        have HQ := hid hq
        clear hq ht
        go_wp2_with fail
        go_roundw
        case rel => exact ⟨m, (m : Int) - 1, by omega, rfl, by go_num, fun i t hi hti => (Nat.eq_or_lt_of_le hi).elim (fun he => by subst he; obtain rfl := Option.some.inj (hti.symm.trans HT.out); exact HQ.out) (fun hi => HJ.out i t hi hti), by first | rfl | trivial⟩
        case measure => simp [intOf]
theorem lastI_B (ns : List ByteArray) (v : Value) (s : ByteArray) (w : World) (h : StrsL w ns v) :
    Calls Try.prog 126 #[v, .string s] w fun e w' => e = .returned (.int .i64 (lastAt s ns)) ∧ Below w.heap.size w w' := (lastI_L ns v s w h).mono (by rintro e w' ⟨rfl, rfl⟩; exact ⟨rfl, Below.refl _ _⟩)
theorem heap_lift {w w' : World} {b : Nat} {o : Obj} (h : w.heap[b]? = some o) (hb : Below w.heap.size w w') : w'.heap[b]? = some o := (hb.block _ (Array.getElem?_eq_some_iff.1 h).1).trans h
def AliW (N : Nat) : Prop := ∀ (k1 : Int) (u1 : Int) (n1 : ByteArray) (tk1 : Int) (tn1 : ByteArray) (tks1 : List Ty) (ns1 : List ByteArray) (ks1 : List Tm) (atks1 : Option Addr) (ctks1 : Nat) (ans1 : Option Addr) (cns1 : Nat) (aks1 : Option Addr) (cks1 : Nat) (k2 : Int) (u2 : Int) (n2 : ByteArray) (tk2 : Int) (tn2 : ByteArray) (tks2 : List Ty) (ns2 : List ByteArray) (ks2 : List Tm) (atks2 : Option Addr) (ctks2 : Nat) (ans2 : Option Addr) (cns2 : Nat) (aks2 : Option Addr) (cks2 : Nat) (x y : List ByteArray) (vx vy : Value) (w : World), Tm.bulk (Tm.mk k1 u1 n1 (Ty.mk tk1 tn1 tks1) ns1 ks1) < N → Tm.bulk (Tm.mk k1 u1 n1 (Ty.mk tk1 tn1 tks1) ns1 ks1) ≤ 1048576 → Tm.bulk (Tm.mk k2 u2 n2 (Ty.mk tk2 tn2 tks2) ns2 ks2) ≤ 1048576 → x.length + 1 + Tm.bulk (Tm.mk k1 u1 n1 (Ty.mk tk1 tn1 tks1) ns1 ks1) ≤ 4194304 → y.length + 1 + Tm.bulk (Tm.mk k2 u2 n2 (Ty.mk tk2 tn2 tks2) ns2 ks2) ≤ 4194304 → RdS w (Tm.d (Tm.mk k1 u1 n1 (Ty.mk tk1 tn1 tks1) ns1 ks1)) [.int .i64 k1, .int .i64 u1, .string n1, .int .i64 tk1, .string tn1, .slice atks1 tks1.length ctks1, .slice ans1 ns1.length cns1, .slice aks1 ks1.length cks1] → RdS w (Tm.d (Tm.mk k2 u2 n2 (Ty.mk tk2 tn2 tks2) ns2 ks2)) [.int .i64 k2, .int .i64 u2, .string n2, .int .i64 tk2, .string tn2, .slice atks2 tks2.length ctks2, .slice ans2 ns2.length cns2, .slice aks2 ks2.length cks2] → StrsL w x vx → StrsL w y vy →
  Calls Try.prog 78 #[.agg #[.int .i64 k1, .int .i64 u1, .string n1, .int .i64 tk1, .string tn1, .slice atks1 tks1.length ctks1, .slice ans1 ns1.length cns1, .slice aks1 ks1.length cks1], .agg #[.int .i64 k2, .int .i64 u2, .string n2, .int .i64 tk2, .string tn2, .slice atks2 tks2.length ctks2, .slice ans2 ns2.length cns2, .slice aks2 ks2.length cks2], vx, vy] w fun e w' => e = .returned (.bool (Tm.alpha (Tm.mk k1 u1 n1 (Ty.mk tk1 tn1 tks1) ns1 ks1) (Tm.mk k2 u2 n2 (Ty.mk tk2 tn2 tks2) ns2 ks2) x y)) ∧ Below w.heap.size w w'
set_option maxRecDepth 100000 in
set_option maxHeartbeats 16000000 in
theorem alphaSame_step (N : Nat) (ih : AliW N) : AliW (N + 1) := by
  intro k1 u1 n1 tk1 tn1 tks1 ns1 ks1 atks1 ctks1 ans1 cns1 aks1 cks1 k2 u2 n2 tk2 tn2 tks2 ns2 ks2 atks2 ctks2 ans2 cns2 aks2 cks2 x y vx vy w hN hM hM2 hX hY hr hr' hLx hLy
  have hbx := boxes2 w (.cells #[.int .i64 k1, .int .i64 u1, .string n1, .int .i64 tk1, .string tn1, .slice atks1 tks1.length ctks1, .slice ans1 ns1.length cns1, .slice aks1 ks1.length cks1] 55) (.cells #[.int .i64 k2, .int .i64 u2, .string n2, .int .i64 tk2, .string tn2, .slice atks2 tks2.length ctks2, .slice ans2 ns2.length cns2, .slice aks2 ks2.length cks2] 55)
  have HX0 := hid hbx.1
  have HX1 := hid hbx.2.1
  have HX2 := hid hbx.2.2.1
  have HBX := hid hbx.2.2.2
  have hc0 := impl_SameType tk1 tk2 tn1 tn2 tks1 tks2 atks1 atks2 ctks1 ctks2 _ (hr.subTm_t.below hbx.2.2.2) (hr'.subTm_t.below hbx.2.2.2)
  have HLX := hid hLx
  have HLY := hid hLy
  have HIN := hid ih
  have HN := hid hN
  have HM := hid hM
  have HM2 := hid hM2
  have HX := hid hX
  have HY := hid hY
  have HR := hid hr
  have HR2 := hid hr'
  have EQ0 := hid (show Tm.alpha (Tm.mk k1 u1 n1 (Ty.mk tk1 tn1 tks1) ns1 ks1) (Tm.mk k2 u2 n2 (Ty.mk tk2 tn2 tks2) ns2 ks2) x y = _ from Tm.alpha.eq_1 _ _ _ _ _ _ _ _ _ _ _ _ _ _)
  obtain ⟨ax, cx, rfl, -⟩ := hLx
  obtain ⟨ay, cy, rfl, -⟩ := hLy
  clear ih hN hM hM2 hX hY hr hr' hbx
  have e0 := heap_cell HX0.out (j := 0) rfl
  have e1 := heap_cell HX0.out (j := 1) rfl
  have e2 := heap_cell HX0.out (j := 2) rfl
  have e3 := heap_cell HX0.out (j := 3) rfl
  have e4 := heap_cell HX0.out (j := 4) rfl
  have e5 := heap_cell HX0.out (j := 5) rfl
  have e6 := heap_cell HX0.out (j := 6) rfl
  have e7 := heap_cell HX0.out (j := 7) rfl
  have d0 := heap_cell HX1.out (j := 0) rfl
  have d1 := heap_cell HX1.out (j := 1) rfl
  have d2 := heap_cell HX1.out (j := 2) rfl
  have d3 := heap_cell HX1.out (j := 3) rfl
  have d4 := heap_cell HX1.out (j := 4) rfl
  have d5 := heap_cell HX1.out (j := 5) rfl
  have d6 := heap_cell HX1.out (j := 6) rfl
  have d7 := heap_cell HX1.out (j := 7) rfl
  by_cases h_k : k1 = k2
  case neg =>
    have HE := hid (show Tm.alpha (Tm.mk k1 u1 n1 (Ty.mk tk1 tn1 tks1) ns1 ks1) (Tm.mk k2 u2 n2 (Ty.mk tk2 tn2 tks2) ns2 ks2) x y = false by rw [EQ0.out, decide_eq_false h_k]; simp only [Bool.false_and])
    have hb_k : (k1 != k2) = true := by simp; omega
    clear h_k hc0 EQ0 HIN HN HM HM2 HX HY HR HR2 HLX HLY 
    go_enter Try.func78, Try.ntmps78
    go_wp2_with fail
    go_ret
    exact ⟨ret_bool HE.out.symm, HBX.out⟩
  case pos =>
  have hb_k : (k1 != k2) = false := by simp [h_k]
  have H_k := hid h_k
  clear h_k
  by_cases h_u : u1 = u2
  case neg =>
    have HE := hid (show Tm.alpha (Tm.mk k1 u1 n1 (Ty.mk tk1 tn1 tks1) ns1 ks1) (Tm.mk k2 u2 n2 (Ty.mk tk2 tn2 tks2) ns2 ks2) x y = false by rw [EQ0.out, decide_eq_false h_u]; simp only [Bool.false_and, Bool.and_false])
    have hb_u : (u1 != u2) = true := by simp; omega
    clear h_u hc0 EQ0 HIN HN HM HM2 HX HY HR HR2 HLX HLY 
    go_enter Try.func78, Try.ntmps78
    go_wp2_with fail
    go_ret
    exact ⟨ret_bool HE.out.symm, HBX.out⟩
  case pos =>
  have hb_u : (u1 != u2) = false := by simp [h_u]
  have H_u := hid h_u
  clear h_u
  by_cases h_t : Ty.eqb (Ty.mk tk1 tn1 tks1) (Ty.mk tk2 tn2 tks2) = true
  case neg =>
    replace h_t := (Bool.not_eq_true _).mp h_t
    rw [h_t] at hc0
    have HC0 := hid hc0
    have HE := hid (show Tm.alpha (Tm.mk k1 u1 n1 (Ty.mk tk1 tn1 tks1) ns1 ks1) (Tm.mk k2 u2 n2 (Ty.mk tk2 tn2 tks2) ns2 ks2) x y = false by rw [EQ0.out, h_t]; simp only [Bool.false_and, Bool.and_false])
    clear h_t hc0 EQ0 HIN HN HM HM2 HX HY HR HR2 HLX HLY 
    go_enter Try.func78, Try.ntmps78
    go_wp2_with fail
    refine HC0.out.mono ?_
    rintro e w1 ⟨rfl, hb1⟩
    have HY0 := hid ((hb1.block _ (Array.getElem?_eq_some_iff.1 HX0.out).1).trans HX0.out)
    have HY1 := hid ((hb1.block _ (Array.getElem?_eq_some_iff.1 HX1.out).1).trans HX1.out)
    have HB1 := hid hb1
    clear hb1 e0 d0 e1 d1 e2 d2 e3 d3 e4 d4 e5 d5 e6 d6 e7 d7
    have e0 := heap_cell HY0.out (j := 0) rfl
    have e1 := heap_cell HY0.out (j := 1) rfl
    have e2 := heap_cell HY0.out (j := 2) rfl
    have e3 := heap_cell HY0.out (j := 3) rfl
    have e4 := heap_cell HY0.out (j := 4) rfl
    have e5 := heap_cell HY0.out (j := 5) rfl
    have e6 := heap_cell HY0.out (j := 6) rfl
    have e7 := heap_cell HY0.out (j := 7) rfl
    have d0 := heap_cell HY1.out (j := 0) rfl
    have d1 := heap_cell HY1.out (j := 1) rfl
    have d2 := heap_cell HY1.out (j := 2) rfl
    have d3 := heap_cell HY1.out (j := 3) rfl
    have d4 := heap_cell HY1.out (j := 4) rfl
    have d5 := heap_cell HY1.out (j := 5) rfl
    have d6 := heap_cell HY1.out (j := 6) rfl
    have d7 := heap_cell HY1.out (j := 7) rfl
    go_wp2_with fail
    go_ret
    exact ⟨ret_bool HE.out.symm, (HBX.out.trans (HB1.out.mono HBX.out.size))⟩
  case pos =>
  rw [h_t] at hc0
  have HC0 := hid hc0
  clear hc0
  have H_t := hid h_t
  clear h_t
  by_cases h_l : ns1.length = ns2.length
  case neg =>
    have HE := hid (show Tm.alpha (Tm.mk k1 u1 n1 (Ty.mk tk1 tn1 tks1) ns1 ks1) (Tm.mk k2 u2 n2 (Ty.mk tk2 tn2 tks2) ns2 ks2) x y = false by rw [EQ0.out, decide_eq_false h_l]; simp only [Bool.false_and, Bool.and_false])
    have hb_l : ((ns1.length : Int) != (ns2.length : Int)) = true := by simp; omega
    clear h_l EQ0 HIN HN HM HM2 HX HY HR HR2 HLX HLY 
    go_enter Try.func78, Try.ntmps78
    go_wp2_with fail
    refine HC0.out.mono ?_
    rintro e w1 ⟨rfl, hb1⟩
    have HY0 := hid ((hb1.block _ (Array.getElem?_eq_some_iff.1 HX0.out).1).trans HX0.out)
    have HY1 := hid ((hb1.block _ (Array.getElem?_eq_some_iff.1 HX1.out).1).trans HX1.out)
    have HB1 := hid hb1
    clear hb1 e0 d0 e1 d1 e2 d2 e3 d3 e4 d4 e5 d5 e6 d6 e7 d7
    have e0 := heap_cell HY0.out (j := 0) rfl
    have e1 := heap_cell HY0.out (j := 1) rfl
    have e2 := heap_cell HY0.out (j := 2) rfl
    have e3 := heap_cell HY0.out (j := 3) rfl
    have e4 := heap_cell HY0.out (j := 4) rfl
    have e5 := heap_cell HY0.out (j := 5) rfl
    have e6 := heap_cell HY0.out (j := 6) rfl
    have e7 := heap_cell HY0.out (j := 7) rfl
    have d0 := heap_cell HY1.out (j := 0) rfl
    have d1 := heap_cell HY1.out (j := 1) rfl
    have d2 := heap_cell HY1.out (j := 2) rfl
    have d3 := heap_cell HY1.out (j := 3) rfl
    have d4 := heap_cell HY1.out (j := 4) rfl
    have d5 := heap_cell HY1.out (j := 5) rfl
    have d6 := heap_cell HY1.out (j := 6) rfl
    have d7 := heap_cell HY1.out (j := 7) rfl
    go_wp2_with fail
    go_ret
    exact ⟨ret_bool HE.out.symm, (HBX.out.trans (HB1.out.mono HBX.out.size))⟩
  case pos =>
  have hb_l : ((ns1.length : Int) != (ns2.length : Int)) = false := by simp [h_l]
  have H_l := hid h_l
  clear h_l
  by_cases h_c : ks1.length = ks2.length
  case neg =>
    have HE := hid (show Tm.alpha (Tm.mk k1 u1 n1 (Ty.mk tk1 tn1 tks1) ns1 ks1) (Tm.mk k2 u2 n2 (Ty.mk tk2 tn2 tks2) ns2 ks2) x y = false by rw [EQ0.out, decide_eq_false h_c]; simp only [Bool.false_and, Bool.and_false])
    have hb_c : ((ks1.length : Int) != (ks2.length : Int)) = true := by simp; omega
    clear h_c EQ0 HIN HN HM HM2 HX HY HR HR2 HLX HLY 
    go_enter Try.func78, Try.ntmps78
    go_wp2_with fail
    refine HC0.out.mono ?_
    rintro e w1 ⟨rfl, hb1⟩
    have HY0 := hid ((hb1.block _ (Array.getElem?_eq_some_iff.1 HX0.out).1).trans HX0.out)
    have HY1 := hid ((hb1.block _ (Array.getElem?_eq_some_iff.1 HX1.out).1).trans HX1.out)
    have HB1 := hid hb1
    clear hb1 e0 d0 e1 d1 e2 d2 e3 d3 e4 d4 e5 d5 e6 d6 e7 d7
    have e0 := heap_cell HY0.out (j := 0) rfl
    have e1 := heap_cell HY0.out (j := 1) rfl
    have e2 := heap_cell HY0.out (j := 2) rfl
    have e3 := heap_cell HY0.out (j := 3) rfl
    have e4 := heap_cell HY0.out (j := 4) rfl
    have e5 := heap_cell HY0.out (j := 5) rfl
    have e6 := heap_cell HY0.out (j := 6) rfl
    have e7 := heap_cell HY0.out (j := 7) rfl
    have d0 := heap_cell HY1.out (j := 0) rfl
    have d1 := heap_cell HY1.out (j := 1) rfl
    have d2 := heap_cell HY1.out (j := 2) rfl
    have d3 := heap_cell HY1.out (j := 3) rfl
    have d4 := heap_cell HY1.out (j := 4) rfl
    have d5 := heap_cell HY1.out (j := 5) rfl
    have d6 := heap_cell HY1.out (j := 6) rfl
    have d7 := heap_cell HY1.out (j := 7) rfl
    go_wp2_with fail
    go_ret
    exact ⟨ret_bool HE.out.symm, (HBX.out.trans (HB1.out.mono HBX.out.size))⟩
  case pos =>
  have hb_c : ((ks1.length : Int) != (ks2.length : Int)) = false := by simp [h_c]
  have H_c := hid h_c
  clear h_c
  have HA := hid (show Tm.alpha (Tm.mk k1 u1 n1 (Ty.mk tk1 tn1 tks1) ns1 ks1) (Tm.mk k2 u2 n2 (Ty.mk tk2 tn2 tks2) ns2 ks2) x y = (if k1 = 1 then varsB n1 n2 x y else if (k1 = 8 ∨ k1 = 10) ∧ n1 ≠ n2 then false else Tm.alphas k1 n1 ns1 k2 n2 ns2 0 ks1 ks2 x y) by rw [EQ0.out, decide_eq_true H_k.out, decide_eq_true H_u.out, H_t.out, decide_eq_true H_l.out, decide_eq_true H_c.out]; simp only [Bool.true_and])
  clear EQ0 H_u H_t H_l
  by_cases h1 : k1 = 1
  case pos =>
    have g1 : (k1 == 1) = true := by simp [h1]
    have HV := hid (show Tm.alpha (Tm.mk k1 u1 n1 (Ty.mk tk1 tn1 tks1) ns1 ks1) (Tm.mk k2 u2 n2 (Ty.mk tk2 tn2 tks2) ns2 ks2) x y = varsB n1 n2 x y by rw [HA.out, if_pos h1])
    have hq1 := fun W (hW : Below w.heap.size w W) => lastI_B x _ n1 W (HLX.out.below hW)
    have hq2 := fun W (hW : Below w.heap.size w W) => lastI_B y _ n2 W (HLY.out.below hW)
    obtain ⟨p, hp⟩ : ∃ p, lastAt n1 x = p := ⟨_, rfl⟩
    obtain ⟨q, hq⟩ : ∃ q, lastAt n2 y = q := ⟨_, rfl⟩
    have HVB := hid (HV.out.trans (varsB_y hp hq))
    rw [hp] at hq1
    rw [hq] at hq2
    have HQ1 := hid hq1
    have HQ2 := hid hq2
    clear hq1 hq2 hp hq HV HA h1 HIN HN HM HM2 HX HY HR HR2 HLX HLY H_k H_c
    by_cases hpq : p = q
    case neg =>
      have gpq : (p == q) = false := by simp [hpq]
      have HE := hid (show Tm.alpha (Tm.mk k1 u1 n1 (Ty.mk tk1 tn1 tks1) ns1 ks1) (Tm.mk k2 u2 n2 (Ty.mk tk2 tn2 tks2) ns2 ks2) x y = false by rw [HVB.out, decide_eq_false hpq]; rfl)
      clear hpq HVB
      go_enter Try.func78, Try.ntmps78
      go_wp2_with fail
      refine HC0.out.mono ?_
      rintro e w1 ⟨rfl, hb1⟩
      have HY0 := hid ((hb1.block _ (Array.getElem?_eq_some_iff.1 HX0.out).1).trans HX0.out)
      have HY1 := hid ((hb1.block _ (Array.getElem?_eq_some_iff.1 HX1.out).1).trans HX1.out)
      have HB1 := hid hb1
      clear hb1 e0 d0 e1 d1 e2 d2 e3 d3 e4 d4 e5 d5 e6 d6 e7 d7
      have e0 := heap_cell HY0.out (j := 0) rfl
      have e1 := heap_cell HY0.out (j := 1) rfl
      have e2 := heap_cell HY0.out (j := 2) rfl
      have e3 := heap_cell HY0.out (j := 3) rfl
      have e4 := heap_cell HY0.out (j := 4) rfl
      have e5 := heap_cell HY0.out (j := 5) rfl
      have e6 := heap_cell HY0.out (j := 6) rfl
      have e7 := heap_cell HY0.out (j := 7) rfl
      have d0 := heap_cell HY1.out (j := 0) rfl
      have d1 := heap_cell HY1.out (j := 1) rfl
      have d2 := heap_cell HY1.out (j := 2) rfl
      have d3 := heap_cell HY1.out (j := 3) rfl
      have d4 := heap_cell HY1.out (j := 4) rfl
      have d5 := heap_cell HY1.out (j := 5) rfl
      have d6 := heap_cell HY1.out (j := 6) rfl
      have d7 := heap_cell HY1.out (j := 7) rfl
      clear HC0
      have hbb : Below w.heap.size w w1 := (HBX.out.trans (HB1.out.mono HBX.out.size))
      have HQA := hid (fun d os => Calls.regrown_of (HQ1.out (grow (redrawn w1 d) os) (hbb.trans ((below_regrown w1 d os).mono hbb.size))))
      have HQB := hid (fun d os => Calls.regrown_of (HQ2.out (grow (redrawn w1 d) os) (hbb.trans ((below_regrown w1 d os).mono hbb.size))))
      have HBB := hid hbb
      clear hbb
      go_wp2_with fail
      have f2 := cell_regrown e2
      have s2 := cell_regrown d2
      refine wp_region_quiet_below (by kernel_rfl) (by kernel_rfl) ?_
      repeat (go_big_quiet_step (first | (with_reducible exact HQA.out _ _) | (with_reducible exact HQB.out _ _)))
      refine wpQuiet_nil ?_
      intro w3 hw'
      obtain ⟨⟨dq, osq⟩, hw''⟩ := hw'
      have hb3 : Below w1.heap.size w1 w3 := by subst hw''; exact below_regrown w1 dq osq
      clear hw'' f2 s2
      have e2' := (hb3.cell (p := ⟨w.heap.size, 2, none⟩) (World.block_lt_of_cell? _ _ e2)).trans e2
      have d2' := (hb3.cell (p := ⟨w.heap.size + 1, 2, none⟩) (World.block_lt_of_cell? _ _ d2)).trans d2
      clear e0 d0 e1 d1 e2 d2 e3 d3 e4 d4 e5 d5 e6 d6 e7 d7
      have HB3 := hid (HBB.out.trans (hb3.mono HBB.out.size))
      clear hb3
      go_wp2_with fail
      go_ret
      exact ⟨ret_bool HE.out.symm, HB3.out⟩
    case pos =>
    have gpq : (p == q) = true := by simp [hpq]
    by_cases hp0 : 0 ≤ p
    case pos =>
      have gp0 : decide (0 ≤ p) = true := by simp [hp0]
      have HE := hid (show Tm.alpha (Tm.mk k1 u1 n1 (Ty.mk tk1 tn1 tks1) ns1 ks1) (Tm.mk k2 u2 n2 (Ty.mk tk2 tn2 tks2) ns2 ks2) x y = true by rw [HVB.out, decide_eq_true hpq, gp0]; rfl)
      clear hpq HVB hp0
      go_enter Try.func78, Try.ntmps78
      go_wp2_with fail
      refine HC0.out.mono ?_
      rintro e w1 ⟨rfl, hb1⟩
      have HY0 := hid ((hb1.block _ (Array.getElem?_eq_some_iff.1 HX0.out).1).trans HX0.out)
      have HY1 := hid ((hb1.block _ (Array.getElem?_eq_some_iff.1 HX1.out).1).trans HX1.out)
      have HB1 := hid hb1
      clear hb1 e0 d0 e1 d1 e2 d2 e3 d3 e4 d4 e5 d5 e6 d6 e7 d7
      have e0 := heap_cell HY0.out (j := 0) rfl
      have e1 := heap_cell HY0.out (j := 1) rfl
      have e2 := heap_cell HY0.out (j := 2) rfl
      have e3 := heap_cell HY0.out (j := 3) rfl
      have e4 := heap_cell HY0.out (j := 4) rfl
      have e5 := heap_cell HY0.out (j := 5) rfl
      have e6 := heap_cell HY0.out (j := 6) rfl
      have e7 := heap_cell HY0.out (j := 7) rfl
      have d0 := heap_cell HY1.out (j := 0) rfl
      have d1 := heap_cell HY1.out (j := 1) rfl
      have d2 := heap_cell HY1.out (j := 2) rfl
      have d3 := heap_cell HY1.out (j := 3) rfl
      have d4 := heap_cell HY1.out (j := 4) rfl
      have d5 := heap_cell HY1.out (j := 5) rfl
      have d6 := heap_cell HY1.out (j := 6) rfl
      have d7 := heap_cell HY1.out (j := 7) rfl
      clear HC0
      have hbb : Below w.heap.size w w1 := (HBX.out.trans (HB1.out.mono HBX.out.size))
      have HQA := hid (fun d os => Calls.regrown_of (HQ1.out (grow (redrawn w1 d) os) (hbb.trans ((below_regrown w1 d os).mono hbb.size))))
      have HQB := hid (fun d os => Calls.regrown_of (HQ2.out (grow (redrawn w1 d) os) (hbb.trans ((below_regrown w1 d os).mono hbb.size))))
      have HBB := hid hbb
      clear hbb
      go_wp2_with fail
      have f2 := cell_regrown e2
      have s2 := cell_regrown d2
      refine wp_region_quiet_below (by kernel_rfl) (by kernel_rfl) ?_
      repeat (go_big_quiet_step (first | (with_reducible exact HQA.out _ _) | (with_reducible exact HQB.out _ _)))
      refine wpQuiet_nil ?_
      intro w3 hw'
      obtain ⟨⟨dq, osq⟩, hw''⟩ := hw'
      have hb3 : Below w1.heap.size w1 w3 := by subst hw''; exact below_regrown w1 dq osq
      clear hw'' f2 s2
      have e2' := (hb3.cell (p := ⟨w.heap.size, 2, none⟩) (World.block_lt_of_cell? _ _ e2)).trans e2
      have d2' := (hb3.cell (p := ⟨w.heap.size + 1, 2, none⟩) (World.block_lt_of_cell? _ _ d2)).trans d2
      clear e0 d0 e1 d1 e2 d2 e3 d3 e4 d4 e5 d5 e6 d6 e7 d7
      have HB3 := hid (HBB.out.trans (hb3.mono HBB.out.size))
      clear hb3
      go_wp2_with fail
      go_ret
      exact ⟨ret_bool HE.out.symm, HB3.out⟩
    case neg =>
    have gp0 : decide (0 ≤ p) = false := by simp; omega
    by_cases hnn : n1 = n2
    case pos =>
      have hbn := bytes_eq hnn
      have HE := hid (show Tm.alpha (Tm.mk k1 u1 n1 (Ty.mk tk1 tn1 tks1) ns1 ks1) (Tm.mk k2 u2 n2 (Ty.mk tk2 tn2 tks2) ns2 ks2) x y = true by rw [HVB.out, decide_eq_true hpq, gp0, decide_eq_true hnn]; rfl)
      clear hpq HVB hp0 hnn
      go_enter Try.func78, Try.ntmps78
      go_wp2_with fail
      refine HC0.out.mono ?_
      rintro e w1 ⟨rfl, hb1⟩
      have HY0 := hid ((hb1.block _ (Array.getElem?_eq_some_iff.1 HX0.out).1).trans HX0.out)
      have HY1 := hid ((hb1.block _ (Array.getElem?_eq_some_iff.1 HX1.out).1).trans HX1.out)
      have HB1 := hid hb1
      clear hb1 e0 d0 e1 d1 e2 d2 e3 d3 e4 d4 e5 d5 e6 d6 e7 d7
      have e0 := heap_cell HY0.out (j := 0) rfl
      have e1 := heap_cell HY0.out (j := 1) rfl
      have e2 := heap_cell HY0.out (j := 2) rfl
      have e3 := heap_cell HY0.out (j := 3) rfl
      have e4 := heap_cell HY0.out (j := 4) rfl
      have e5 := heap_cell HY0.out (j := 5) rfl
      have e6 := heap_cell HY0.out (j := 6) rfl
      have e7 := heap_cell HY0.out (j := 7) rfl
      have d0 := heap_cell HY1.out (j := 0) rfl
      have d1 := heap_cell HY1.out (j := 1) rfl
      have d2 := heap_cell HY1.out (j := 2) rfl
      have d3 := heap_cell HY1.out (j := 3) rfl
      have d4 := heap_cell HY1.out (j := 4) rfl
      have d5 := heap_cell HY1.out (j := 5) rfl
      have d6 := heap_cell HY1.out (j := 6) rfl
      have d7 := heap_cell HY1.out (j := 7) rfl
      clear HC0
      have hbb : Below w.heap.size w w1 := (HBX.out.trans (HB1.out.mono HBX.out.size))
      have HQA := hid (fun d os => Calls.regrown_of (HQ1.out (grow (redrawn w1 d) os) (hbb.trans ((below_regrown w1 d os).mono hbb.size))))
      have HQB := hid (fun d os => Calls.regrown_of (HQ2.out (grow (redrawn w1 d) os) (hbb.trans ((below_regrown w1 d os).mono hbb.size))))
      have HBB := hid hbb
      clear hbb
      go_wp2_with fail
      have f2 := cell_regrown e2
      have s2 := cell_regrown d2
      refine wp_region_quiet_below (by kernel_rfl) (by kernel_rfl) ?_
      repeat (go_big_quiet_step (first | (with_reducible exact HQA.out _ _) | (with_reducible exact HQB.out _ _)))
      refine wpQuiet_nil ?_
      intro w3 hw'
      obtain ⟨⟨dq, osq⟩, hw''⟩ := hw'
      have hb3 : Below w1.heap.size w1 w3 := by subst hw''; exact below_regrown w1 dq osq
      clear hw'' f2 s2
      have e2' := (hb3.cell (p := ⟨w.heap.size, 2, none⟩) (World.block_lt_of_cell? _ _ e2)).trans e2
      have d2' := (hb3.cell (p := ⟨w.heap.size + 1, 2, none⟩) (World.block_lt_of_cell? _ _ d2)).trans d2
      clear e0 d0 e1 d1 e2 d2 e3 d3 e4 d4 e5 d5 e6 d6 e7 d7
      have HB3 := hid (HBB.out.trans (hb3.mono HBB.out.size))
      clear hb3
      go_wp2_with fail
      go_ret
      exact ⟨ret_bool HE.out.symm, HB3.out⟩
    case neg =>
      have hbn := bytes_ne hnn
      have HE := hid (show Tm.alpha (Tm.mk k1 u1 n1 (Ty.mk tk1 tn1 tks1) ns1 ks1) (Tm.mk k2 u2 n2 (Ty.mk tk2 tn2 tks2) ns2 ks2) x y = false by rw [HVB.out, decide_eq_true hpq, gp0, decide_eq_false hnn]; rfl)
      clear hpq HVB hp0 hnn
      go_enter Try.func78, Try.ntmps78
      go_wp2_with fail
      refine HC0.out.mono ?_
      rintro e w1 ⟨rfl, hb1⟩
      have HY0 := hid ((hb1.block _ (Array.getElem?_eq_some_iff.1 HX0.out).1).trans HX0.out)
      have HY1 := hid ((hb1.block _ (Array.getElem?_eq_some_iff.1 HX1.out).1).trans HX1.out)
      have HB1 := hid hb1
      clear hb1 e0 d0 e1 d1 e2 d2 e3 d3 e4 d4 e5 d5 e6 d6 e7 d7
      have e0 := heap_cell HY0.out (j := 0) rfl
      have e1 := heap_cell HY0.out (j := 1) rfl
      have e2 := heap_cell HY0.out (j := 2) rfl
      have e3 := heap_cell HY0.out (j := 3) rfl
      have e4 := heap_cell HY0.out (j := 4) rfl
      have e5 := heap_cell HY0.out (j := 5) rfl
      have e6 := heap_cell HY0.out (j := 6) rfl
      have e7 := heap_cell HY0.out (j := 7) rfl
      have d0 := heap_cell HY1.out (j := 0) rfl
      have d1 := heap_cell HY1.out (j := 1) rfl
      have d2 := heap_cell HY1.out (j := 2) rfl
      have d3 := heap_cell HY1.out (j := 3) rfl
      have d4 := heap_cell HY1.out (j := 4) rfl
      have d5 := heap_cell HY1.out (j := 5) rfl
      have d6 := heap_cell HY1.out (j := 6) rfl
      have d7 := heap_cell HY1.out (j := 7) rfl
      clear HC0
      have hbb : Below w.heap.size w w1 := (HBX.out.trans (HB1.out.mono HBX.out.size))
      have HQA := hid (fun d os => Calls.regrown_of (HQ1.out (grow (redrawn w1 d) os) (hbb.trans ((below_regrown w1 d os).mono hbb.size))))
      have HQB := hid (fun d os => Calls.regrown_of (HQ2.out (grow (redrawn w1 d) os) (hbb.trans ((below_regrown w1 d os).mono hbb.size))))
      have HBB := hid hbb
      clear hbb
      go_wp2_with fail
      have f2 := cell_regrown e2
      have s2 := cell_regrown d2
      refine wp_region_quiet_below (by kernel_rfl) (by kernel_rfl) ?_
      repeat (go_big_quiet_step (first | (with_reducible exact HQA.out _ _) | (with_reducible exact HQB.out _ _)))
      refine wpQuiet_nil ?_
      intro w3 hw'
      obtain ⟨⟨dq, osq⟩, hw''⟩ := hw'
      have hb3 : Below w1.heap.size w1 w3 := by subst hw''; exact below_regrown w1 dq osq
      clear hw'' f2 s2
      have e2' := (hb3.cell (p := ⟨w.heap.size, 2, none⟩) (World.block_lt_of_cell? _ _ e2)).trans e2
      have d2' := (hb3.cell (p := ⟨w.heap.size + 1, 2, none⟩) (World.block_lt_of_cell? _ _ d2)).trans d2
      clear e0 d0 e1 d1 e2 d2 e3 d3 e4 d4 e5 d5 e6 d6 e7 d7
      have HB3 := hid (HBB.out.trans (hb3.mono HBB.out.size))
      clear hb3
      go_wp2_with fail
      go_ret
      exact ⟨ret_bool HE.out.symm, HB3.out⟩
  case neg =>
  have g1 : (k1 == 1) = false := by simp [h1]
  by_cases h8 : k1 = 8
  case pos =>
    by_cases hnn : n1 = n2
    case neg =>
      have hbn := bytes_ne hnn
      have g8 : (k1 == 8) = true := by simp [h8]
      have g10 : (k1 == 10) = false := by simp [h8]
      have HE := hid (show Tm.alpha (Tm.mk k1 u1 n1 (Ty.mk tk1 tn1 tks1) ns1 ks1) (Tm.mk k2 u2 n2 (Ty.mk tk2 tn2 tks2) ns2 ks2) x y = false by rw [HA.out, if_neg h1, if_pos ⟨by simp [h8], hnn⟩])
      clear HA h1 h8 hnn HIN HN HM HM2 HX HY HR HR2 HLX HLY H_k H_c
      go_enter Try.func78, Try.ntmps78
      go_wp2_with fail
      refine HC0.out.mono ?_
      rintro e w1 ⟨rfl, hb1⟩
      have HY0 := hid ((hb1.block _ (Array.getElem?_eq_some_iff.1 HX0.out).1).trans HX0.out)
      have HY1 := hid ((hb1.block _ (Array.getElem?_eq_some_iff.1 HX1.out).1).trans HX1.out)
      have HB1 := hid hb1
      clear hb1 e0 d0 e1 d1 e2 d2 e3 d3 e4 d4 e5 d5 e6 d6 e7 d7
      have e0 := heap_cell HY0.out (j := 0) rfl
      have e1 := heap_cell HY0.out (j := 1) rfl
      have e2 := heap_cell HY0.out (j := 2) rfl
      have e3 := heap_cell HY0.out (j := 3) rfl
      have e4 := heap_cell HY0.out (j := 4) rfl
      have e5 := heap_cell HY0.out (j := 5) rfl
      have e6 := heap_cell HY0.out (j := 6) rfl
      have e7 := heap_cell HY0.out (j := 7) rfl
      have d0 := heap_cell HY1.out (j := 0) rfl
      have d1 := heap_cell HY1.out (j := 1) rfl
      have d2 := heap_cell HY1.out (j := 2) rfl
      have d3 := heap_cell HY1.out (j := 3) rfl
      have d4 := heap_cell HY1.out (j := 4) rfl
      have d5 := heap_cell HY1.out (j := 5) rfl
      have d6 := heap_cell HY1.out (j := 6) rfl
      have d7 := heap_cell HY1.out (j := 7) rfl
      clear HC0
      go_wp2_with fail
      go_ret
      exact ⟨ret_bool HE.out.symm, (HBX.out.trans (HB1.out.mono HBX.out.size))⟩
    case pos =>
      have hbn := bytes_eq hnn
      have HNM := hid (show ¬ ((k1 = 8 ∨ k1 = 10) ∧ n1 ≠ n2) from fun h => h.2 hnn)
      have g8 : (k1 == 8) = true := by simp [h8]
      have g10 : (k1 == 10) = false := by simp [h8]
      clear h8 hnn
      have HAL := hid (show Tm.alpha (Tm.mk k1 u1 n1 (Ty.mk tk1 tn1 tks1) ns1 ks1) (Tm.mk k2 u2 n2 (Ty.mk tk2 tn2 tks2) ns2 ks2) x y = Tm.alphas k1 n1 ns1 k2 n2 ns2 0 ks1 ks2 x y by rw [HA.out, if_neg h1, if_neg HNM.out])
      have hfn := HR.out.fTm.2.2.2.2.1
      have hgn := HR2.out.fTm.2.2.2.2.1
      obtain ⟨_, _, e, h2, h3, h4⟩ := HR.out.fTm.2.2.2.2.2.eTm
      simp only [Value.slice.injEq, true_and] at e
      obtain ⟨rfl, rfl⟩ := e
      obtain ⟨_, _, e, h2', h3', h4'⟩ := HR2.out.fTm.2.2.2.2.2.eTm
      simp only [Value.slice.injEq, true_and] at e
      obtain ⟨rfl, rfl⟩ := e
      have hbk : Tm.bulks ks1 + ns1.length ≤ Tm.bulk (Tm.mk k1 u1 n1 (Ty.mk tk1 tn1 tks1) ns1 ks1) := by have := Sr.bulks_length ns1; simp only [Tm.bulk]; omega
      have hbk2 : Tm.bulks ks2 + ns2.length ≤ Tm.bulk (Tm.mk k2 u2 n2 (Ty.mk tk2 tn2 tks2) ns2 ks2) := by have := Sr.bulks_length ns2; simp only [Tm.bulk]; omega
      have hlk : ks1.length ≤ 1048576 := by have := Tm.bulks_length ks1; have := HM.out; omega
      have HFN := hid hfn
      have HGN := hid hgn
      have H4 := hid h4
      have H4' := hid h4'
      have HK := hid hbk
      have HK2 := hid hbk2
      clear hfn hgn h2 h3 h4 h2' h3' h4' hbk hbk2 HA h1 HNM HR HR2
      go_enter Try.func78, Try.ntmps78
      go_wp2_with fail
      refine HC0.out.mono ?_
      rintro e w1 ⟨rfl, hb1⟩
      have HY0 := hid ((hb1.block _ (Array.getElem?_eq_some_iff.1 HX0.out).1).trans HX0.out)
      have HY1 := hid ((hb1.block _ (Array.getElem?_eq_some_iff.1 HX1.out).1).trans HX1.out)
      have HB1 := hid hb1
      clear hb1 e0 d0 e1 d1 e2 d2 e3 d3 e4 d4 e5 d5 e6 d6 e7 d7
      have e0 := heap_cell HY0.out (j := 0) rfl
      have e1 := heap_cell HY0.out (j := 1) rfl
      have e2 := heap_cell HY0.out (j := 2) rfl
      have e3 := heap_cell HY0.out (j := 3) rfl
      have e4 := heap_cell HY0.out (j := 4) rfl
      have e5 := heap_cell HY0.out (j := 5) rfl
      have e6 := heap_cell HY0.out (j := 6) rfl
      have e7 := heap_cell HY0.out (j := 7) rfl
      have d0 := heap_cell HY1.out (j := 0) rfl
      have d1 := heap_cell HY1.out (j := 1) rfl
      have d2 := heap_cell HY1.out (j := 2) rfl
      have d3 := heap_cell HY1.out (j := 3) rfl
      have d4 := heap_cell HY1.out (j := 4) rfl
      have d5 := heap_cell HY1.out (j := 5) rfl
      have d6 := heap_cell HY1.out (j := 6) rfl
      have d7 := heap_cell HY1.out (j := 7) rfl
      clear HC0
      have HBW := hid (show Below w.heap.size w w1 from (HBX.out.trans (HB1.out.mono HBX.out.size)))
      have HLX1 := hid (HLX.out.below HBW.out)
      have HLY1 := hid (HLY.out.below HBW.out)
      clear HX0 HX1 HX2 HB1 HBX HLX HLY
      go_wp2_with fail
      clear e0 d0 e1 d1 e2 d2 e3 d3 e4 d4 e5 d5 e6 d6 e7 d7
      go_loopw [11, 87] (fun _ i wr => ∃ (j : Nat), j ≤ ks1.length ∧ i = .int .i64 j ∧ Hid (∀ (i : Nat) t u, i < j → ks1[i]? = some t → ks2[i]? = some u → Tm.alpha t u (x ++ boundOf k1 n1 ns1 (0 + i)) (y ++ boundOf k2 n2 ns2 (0 + i)) = true) ∧ Hid (Below w1.heap.size w1 wr)) (fun _ i _ => ks1.length - (intOf i).toNat)
      case atStart => exact ⟨0, by omega, rfl, fun i t u hi => absurd hi (by omega), Below.refl _ _⟩
      case round =>
        obtain ⟨j, hj, rfl, HJ, HB⟩ := hrel
        by_cases hlt : j < ks1.length
        case neg =>
          have HE := hid (show Tm.alpha (Tm.mk k1 u1 n1 (Ty.mk tk1 tn1 tks1) ns1 ks1) (Tm.mk k2 u2 n2 (Ty.mk tk2 tn2 tks2) ns2 ks2) x y = true by rw [HAL.out]; exact Tm.alphas_yes _ _ _ _ _ _ _ _ _ _ _ (fun i t u h1 h2 => HJ.out i t u (by have := (List.getElem?_eq_some_iff.1 h1).1; omega) h1 h2))
          go_wp2_with fail
          go_ret
          exact ⟨ret_bool HE.out.symm, HBW.out.trans (HB.out.mono HBW.out.size)⟩
        case pos =>
          have hlt' : j < ks2.length := by have := H_c.out; omega
          obtain ⟨b, o, rfl, hbl, hall⟩ := H4.out (by omega)
          obtain ⟨b', o', rfl, hbl', hall'⟩ := H4'.out (by omega)
          obtain ⟨t, ht⟩ : ∃ t, ks1[j]? = some t := ⟨_, List.getElem?_eq_getElem hlt⟩
          obtain ⟨t', ht'⟩ : ∃ t, ks2[j]? = some t := ⟨_, List.getElem?_eq_getElem hlt'⟩
          obtain ⟨k3, u3, n3, ⟨tk3, tn3, tks3⟩, ns3, ks3⟩ := t
          obtain ⟨k4, u4, n4, ⟨tk4, tn4, tks4⟩, ns4, ks4⟩ := t'
          obtain ⟨atks3, ctks3, ans3, cns3, aks3, cks3, q0, q1, q2, q3, q4, q5, q6, q7, hrk⟩ := hall j k3 u3 n3 tk3 tn3 tks3 ns3 ks3 ht
          obtain ⟨atks4, ctks4, ans4, cns4, aks4, cks4, p0, p1, p2, p3, p4, p5, p6, p7, hrk'⟩ := hall' j k4 u4 n4 tk4 tn4 tks4 ns4 ks4 ht'
          have hbg := Tm.bulk_get ks1 j _ ht
          have hbg' := Tm.bulk_get ks2 j _ ht'
          have hb1l := boundOf_len' k1 n1 ns1 j
          have hb2l := boundOf_len' k2 n2 ns2 j
          have hle1 : x.length + (boundOf k1 n1 ns1 j).length ≤ 4194304 := by have := HK.out; have := HX.out; omega
          have hle2 : y.length + (boundOf k2 n2 ns2 j).length ≤ 4194304 := by have := HK2.out; have := HY.out; omega
          have hup := fun (W : World) (hW : Below w1.heap.size w1 W) => HBW.out.trans (hW.mono HBW.out.size)
          have hbn1 := fun (W : World) (hW : Below w1.heap.size w1 W) => impl_bound k1 u1 n1 tk1 tn1 tks1 ns1 ks1 atks1 ctks1 ans1 cns1 (some ⟨b, o, none⟩) cks1 j W (HFN.out.below (hup W hW))
          have hbn2 := fun (W : World) (hW : Below w1.heap.size w1 W) => impl_bound k2 u2 n2 tk2 tn2 tks2 ns2 ks2 atks2 ctks2 ans2 cns2 (some ⟨b', o', none⟩) cks2 j W (HGN.out.below (hup W hW))
          have hc := fun va vb (W : World) (hW : Below w1.heap.size w1 W) hs hs' => HIN.out k3 u3 n3 tk3 tn3 tks3 ns3 ks3 atks3 ctks3 ans3 cns3 aks3 cks3 k4 u4 n4 tk4 tn4 tks4 ns4 ks4 atks4 ctks4 ans4 cns4 aks4 cks4 (x ++ boundOf k1 n1 ns1 j) (y ++ boundOf k2 n2 ns2 j) va vb W (by have := HK.out; have := HN.out; omega) (by have := HK.out; have := HM.out; omega) (by have := HK2.out; have := HM2.out; omega) (by have := HK.out; have := HX.out; rw [List.length_append]; omega) (by have := HK2.out; have := HY.out; rw [List.length_append]; omega) (hrk.below (hup W hW)) (hrk'.below (hup W hW)) hs hs'
          generalize hbo : boundOf k1 n1 ns1 j = bs1 at hbn1 hc hle1
          generalize hbo2 : boundOf k2 n2 ns2 j = bs2 at hbn2 hc hle2
          have HBN1 := hid hbn1
          have HBN2 := hid hbn2
          generalize hq : Tm.alpha (Tm.mk k3 u3 n3 (Ty.mk tk3 tn3 tks3) ns3 ks3) (Tm.mk k4 u4 n4 (Ty.mk tk4 tn4 tks4) ns4 ks4) (x ++ bs1) (y ++ bs2) = r at hc
          have HC := hid hc
          have HLE1 := hid hle1
          have HLE2 := hid hle2
          have HR3 := hid (show Tm.alpha (Tm.mk k3 u3 n3 (Ty.mk tk3 tn3 tks3) ns3 ks3) (Tm.mk k4 u4 n4 (Ty.mk tk4 tn4 tks4) ns4 ks4) (x ++ boundOf k1 n1 ns1 (0 + j)) (y ++ boundOf k2 n2 ns2 (0 + j)) = r by rw [Nat.zero_add, hbo, hbo2]; exact hq)
          have HT := hid ht
          have HT' := hid ht'
          have hS : ∀ V : World, Below w1.heap.size w1 V → Below w1.heap.size w1 V ∧ V.cell? ⟨w.heap.size, 0, none⟩ = some (.int .i64 k1) ∧ V.cell? ⟨w.heap.size, 1, none⟩ = some (.int .i64 u1) ∧ V.cell? ⟨w.heap.size, 2, none⟩ = some (.string n1) ∧ V.cell? ⟨w.heap.size, 3, none⟩ = some (.int .i64 tk1) ∧ V.cell? ⟨w.heap.size, 4, none⟩ = some (.string tn1) ∧ V.cell? ⟨w.heap.size, 5, none⟩ = some (.slice atks1 tks1.length ctks1) ∧ V.cell? ⟨w.heap.size, 6, none⟩ = some (.slice ans1 ns1.length cns1) ∧ V.cell? ⟨w.heap.size, 7, none⟩ = some (.slice (some ⟨b, o, none⟩) ks1.length cks1) ∧ V.cell? ⟨w.heap.size + 1, 0, none⟩ = some (.int .i64 k2) ∧ V.cell? ⟨w.heap.size + 1, 1, none⟩ = some (.int .i64 u2) ∧ V.cell? ⟨w.heap.size + 1, 2, none⟩ = some (.string n2) ∧ V.cell? ⟨w.heap.size + 1, 3, none⟩ = some (.int .i64 tk2) ∧ V.cell? ⟨w.heap.size + 1, 4, none⟩ = some (.string tn2) ∧ V.cell? ⟨w.heap.size + 1, 5, none⟩ = some (.slice atks2 tks2.length ctks2) ∧ V.cell? ⟨w.heap.size + 1, 6, none⟩ = some (.slice ans2 ns2.length cns2) ∧ V.cell? ⟨w.heap.size + 1, 7, none⟩ = some (.slice (some ⟨b', o', none⟩) ks2.length cks2) ∧ V.cell? ⟨b, o + j * 8, none⟩ = some (.int .i64 k3) ∧ V.cell? ⟨b, o + j * 8 + 1, none⟩ = some (.int .i64 u3) ∧ V.cell? ⟨b, o + j * 8 + 2, none⟩ = some (.string n3) ∧ V.cell? ⟨b, o + j * 8 + 3, none⟩ = some (.int .i64 tk3) ∧ V.cell? ⟨b, o + j * 8 + 4, none⟩ = some (.string tn3) ∧ V.cell? ⟨b, o + j * 8 + 5, none⟩ = some (.slice atks3 tks3.length ctks3) ∧ V.cell? ⟨b, o + j * 8 + 6, none⟩ = some (.slice ans3 ns3.length cns3) ∧ V.cell? ⟨b, o + j * 8 + 7, none⟩ = some (.slice aks3 ks3.length cks3) ∧ V.cell? ⟨b', o' + j * 8, none⟩ = some (.int .i64 k4) ∧ V.cell? ⟨b', o' + j * 8 + 1, none⟩ = some (.int .i64 u4) ∧ V.cell? ⟨b', o' + j * 8 + 2, none⟩ = some (.string n4) ∧ V.cell? ⟨b', o' + j * 8 + 3, none⟩ = some (.int .i64 tk4) ∧ V.cell? ⟨b', o' + j * 8 + 4, none⟩ = some (.string tn4) ∧ V.cell? ⟨b', o' + j * 8 + 5, none⟩ = some (.slice atks4 tks4.length ctks4) ∧ V.cell? ⟨b', o' + j * 8 + 6, none⟩ = some (.slice ans4 ns4.length cns4) ∧ V.cell? ⟨b', o' + j * 8 + 7, none⟩ = some (.slice aks4 ks4.length cks4) := fun V hV => by
            have k0 := heap_lift HY0.out hV
            have k1 := heap_lift HY1.out hV
            have hu := hup V hV
            exact ⟨hV, heap_cell k0 (j := 0) rfl, heap_cell k0 (j := 1) rfl, heap_cell k0 (j := 2) rfl, heap_cell k0 (j := 3) rfl, heap_cell k0 (j := 4) rfl, heap_cell k0 (j := 5) rfl, heap_cell k0 (j := 6) rfl, heap_cell k0 (j := 7) rfl, heap_cell k1 (j := 0) rfl, heap_cell k1 (j := 1) rfl, heap_cell k1 (j := 2) rfl, heap_cell k1 (j := 3) rfl, heap_cell k1 (j := 4) rfl, heap_cell k1 (j := 5) rfl, heap_cell k1 (j := 6) rfl, heap_cell k1 (j := 7) rfl, (hu.cell (p := ⟨b, o + j * 8, none⟩) hbl).trans q0, (hu.cell (p := ⟨b, o + j * 8 + 1, none⟩) hbl).trans q1, (hu.cell (p := ⟨b, o + j * 8 + 2, none⟩) hbl).trans q2, (hu.cell (p := ⟨b, o + j * 8 + 3, none⟩) hbl).trans q3, (hu.cell (p := ⟨b, o + j * 8 + 4, none⟩) hbl).trans q4, (hu.cell (p := ⟨b, o + j * 8 + 5, none⟩) hbl).trans q5, (hu.cell (p := ⟨b, o + j * 8 + 6, none⟩) hbl).trans q6, (hu.cell (p := ⟨b, o + j * 8 + 7, none⟩) hbl).trans q7, (hu.cell (p := ⟨b', o' + j * 8, none⟩) hbl').trans p0, (hu.cell (p := ⟨b', o' + j * 8 + 1, none⟩) hbl').trans p1, (hu.cell (p := ⟨b', o' + j * 8 + 2, none⟩) hbl').trans p2, (hu.cell (p := ⟨b', o' + j * 8 + 3, none⟩) hbl').trans p3, (hu.cell (p := ⟨b', o' + j * 8 + 4, none⟩) hbl').trans p4, (hu.cell (p := ⟨b', o' + j * 8 + 5, none⟩) hbl').trans p5, (hu.cell (p := ⟨b', o' + j * 8 + 6, none⟩) hbl').trans p6, (hu.cell (p := ⟨b', o' + j * 8 + 7, none⟩) hbl').trans p7⟩
          have HS := hid hS
          have hbd : Below w1.heap.size w1 wr.drew := HB.out.drew
          have HLXD := hid (HLX1.out.below hbd)
          have HLYD := hid (HLY1.out.below hbd)
          have HSD := hid (hS _ hbd)
          obtain ⟨-, s0, s1, s2, s3, s4, s5, s6, s7, s8, s9, s10, s11, s12, s13, s14, s15, s16, s17, s18, s19, s20, s21, s22, s23, s24, s25, s26, s27, s28, s29, s30, s31⟩ := hS _ hbd
          clear hall hall' H4 H4' q0 q1 q2 q3 q4 q5 q6 q7 p0 p1 p2 p3 p4 p5 p6 p7 hrk hrk' hbg hbg' hb1l hb2l hle1 hle2 hbn1 hbn2 hc hbo hbo2 hq ht ht' hS hup
          go_wp2_with fail
          go_region_held3 (fun V => Below w1.heap.size w1 V ∧ V.cell? ⟨w.heap.size, 0, none⟩ = some (.int .i64 k1) ∧ V.cell? ⟨w.heap.size, 1, none⟩ = some (.int .i64 u1) ∧ V.cell? ⟨w.heap.size, 2, none⟩ = some (.string n1) ∧ V.cell? ⟨w.heap.size, 3, none⟩ = some (.int .i64 tk1) ∧ V.cell? ⟨w.heap.size, 4, none⟩ = some (.string tn1) ∧ V.cell? ⟨w.heap.size, 5, none⟩ = some (.slice atks1 tks1.length ctks1) ∧ V.cell? ⟨w.heap.size, 6, none⟩ = some (.slice ans1 ns1.length cns1) ∧ V.cell? ⟨w.heap.size, 7, none⟩ = some (.slice (some ⟨b, o, none⟩) ks1.length cks1) ∧ V.cell? ⟨w.heap.size + 1, 0, none⟩ = some (.int .i64 k2) ∧ V.cell? ⟨w.heap.size + 1, 1, none⟩ = some (.int .i64 u2) ∧ V.cell? ⟨w.heap.size + 1, 2, none⟩ = some (.string n2) ∧ V.cell? ⟨w.heap.size + 1, 3, none⟩ = some (.int .i64 tk2) ∧ V.cell? ⟨w.heap.size + 1, 4, none⟩ = some (.string tn2) ∧ V.cell? ⟨w.heap.size + 1, 5, none⟩ = some (.slice atks2 tks2.length ctks2) ∧ V.cell? ⟨w.heap.size + 1, 6, none⟩ = some (.slice ans2 ns2.length cns2) ∧ V.cell? ⟨w.heap.size + 1, 7, none⟩ = some (.slice (some ⟨b', o', none⟩) ks2.length cks2) ∧ V.cell? ⟨b, o + j * 8, none⟩ = some (.int .i64 k3) ∧ V.cell? ⟨b, o + j * 8 + 1, none⟩ = some (.int .i64 u3) ∧ V.cell? ⟨b, o + j * 8 + 2, none⟩ = some (.string n3) ∧ V.cell? ⟨b, o + j * 8 + 3, none⟩ = some (.int .i64 tk3) ∧ V.cell? ⟨b, o + j * 8 + 4, none⟩ = some (.string tn3) ∧ V.cell? ⟨b, o + j * 8 + 5, none⟩ = some (.slice atks3 tks3.length ctks3) ∧ V.cell? ⟨b, o + j * 8 + 6, none⟩ = some (.slice ans3 ns3.length cns3) ∧ V.cell? ⟨b, o + j * 8 + 7, none⟩ = some (.slice aks3 ks3.length cks3) ∧ V.cell? ⟨b', o' + j * 8, none⟩ = some (.int .i64 k4) ∧ V.cell? ⟨b', o' + j * 8 + 1, none⟩ = some (.int .i64 u4) ∧ V.cell? ⟨b', o' + j * 8 + 2, none⟩ = some (.string n4) ∧ V.cell? ⟨b', o' + j * 8 + 3, none⟩ = some (.int .i64 tk4) ∧ V.cell? ⟨b', o' + j * 8 + 4, none⟩ = some (.string tn4) ∧ V.cell? ⟨b', o' + j * 8 + 5, none⟩ = some (.slice atks4 tks4.length ctks4) ∧ V.cell? ⟨b', o' + j * 8 + 6, none⟩ = some (.slice ans4 ns4.length cns4) ∧ V.cell? ⟨b', o' + j * 8 + 7, none⟩ = some (.slice aks4 ks4.length cks4))
            (first | assumption | exact HSD.out | exact HS.out _ hbd | exact HS.out _ hbA | go_keep)
            (first
              | (go_at_call 128; (with_reducible refine (HBN1.out _ hbd).mono ?_); rintro e W2 ⟨vb, rfl, hsb, hb2⟩; have hsb' := hsb; obtain ⟨ab, cb, rfl, -⟩ := hsb'; have hbd' := hbd.trans (hb2.mono hbd.size); clear hbd; have hbd := hbd'; clear hbd'; have hal := (Below.refl W2.heap.size W2).alloc (Nat.le_refl _) (.cells #[.slice ax x.length cx, .slice ab bs1.length cb] 47); have hbA := hbd.trans (hal.mono hbd.size); have HLYE := hid ((HLYD.out.below hb2).below hal); have HCAT := hid (concat_L x bs1 _ (.slice ab bs1.length cb) W2.heap.size _ (two_newA W2 (.slice ax x.length cx) (.slice ab bs1.length cb) 47) (two_newB W2 (.slice ax x.length cx) (.slice ab bs1.length cb) 47) ((HLXD.out.below hb2).below hal) (hsb.below hal) HLE1.out); clear hsb hb2 hal HBN1)
              | (go_at_call 127; (with_reducible refine HCAT.out.mono ?_); rintro e W3 ⟨vw, rfl, how, hb3⟩; have HOW := hid (StrsL.of_own how); have HLYF := hid (HLYE.out.below hb3); clear hbd; have hbd := hbA.trans (hb3.mono hbA.size); clear how hb3 hbA HCAT HLYE)
              | (go_at_call 128; (with_reducible refine (HBN2.out _ hbd).mono ?_); rintro e W4 ⟨vb, rfl, hsb, hb2⟩; have hsb' := hsb; obtain ⟨ab2, cb2, rfl, -⟩ := hsb'; have hbd' := hbd.trans (hb2.mono hbd.size); clear hbd; have hbd := hbd'; clear hbd'; have hal := (Below.refl W4.heap.size W4).alloc (Nat.le_refl _) (.cells #[.slice ay y.length cy, .slice ab2 bs2.length cb2] 47); have hbA := hbd.trans (hal.mono hbd.size); have HOW2 := hid ((HOW.out.below hb2).below hal); have HCAT2 := hid (concat_L y bs2 _ (.slice ab2 bs2.length cb2) W4.heap.size _ (two_newA W4 (.slice ay y.length cy) (.slice ab2 bs2.length cb2) 47) (two_newB W4 (.slice ay y.length cy) (.slice ab2 bs2.length cb2) 47) ((HLYF.out.below hb2).below hal) (hsb.below hal) HLE2.out); clear hsb hb2 hal HBN2)
              | (go_at_call 127; (with_reducible refine HCAT2.out.mono ?_); rintro e W5 ⟨vw2, rfl, how, hb3⟩; have HOW4 := hid (StrsL.of_own how); have HOW3 := hid (HOW2.out.below hb3); clear hbd; have hbd := hbA.trans (hb3.mono hbA.size); clear how hb3 hbA HCAT2 HOW2)
              | (go_at_call 78; (with_reducible refine (HC.out _ _ _ hbd ?_ ?_).mono ?_); (exact HOW3.out); (exact HOW4.out); rintro e W6 ⟨rfl, hb6⟩; have hbd' := hbd.trans (hb6.mono hbd.size); clear hbd; have hbd := hbd'; clear hbd' hb6))
          have HBZ := hid hbd
          clear hbd s0 s1 s2 s3 s4 s5 s6 s7 s8 s9 s10 s11 s12 s13 s14 s15 s16 s17 s18 s19 s20 s21 s22 s23 s24 s25 s26 s27 s28 s29 s30 s31
          cases r
          case false =>
            have HE := hid (show Tm.alpha (Tm.mk k1 u1 n1 (Ty.mk tk1 tn1 tks1) ns1 ks1) (Tm.mk k2 u2 n2 (Ty.mk tk2 tn2 tks2) ns2 ks2) x y = false by rw [HAL.out]; exact Tm.alphas_no _ _ _ _ _ _ _ _ _ _ _ _ _ _ HT.out HT'.out HR3.out)
            go_wp2_with fail
            go_ret
            exact ⟨ret_bool HE.out.symm, HBW.out.trans (HBZ.out.mono HBW.out.size)⟩
          case true =>
            go_wp2_with fail
            go_roundw
            case rel =>
              refine ⟨j + 1, by omega, by go_num, hid fun i t u hi h1 h2 => ?_, HBZ⟩
              rcases Nat.lt_succ_iff_lt_or_eq.1 hi with hi | rfl
              · exact HJ.out i t u hi h1 h2
              · obtain rfl := Option.some.inj (h1.symm.trans HT.out)
                obtain rfl := Option.some.inj (h2.symm.trans HT'.out)
                exact HR3.out
            case measure => simp [intOf]; omega
  case neg =>
  have H8 := hid h8
  clear h8
  by_cases h8 : k1 = 10
  case pos =>
    by_cases hnn : n1 = n2
    case neg =>
      have hbn := bytes_ne hnn
      have g8 : (k1 == 8) = false := by simp [h8]
      have g10 : (k1 == 10) = true := by simp [h8]
      have HE := hid (show Tm.alpha (Tm.mk k1 u1 n1 (Ty.mk tk1 tn1 tks1) ns1 ks1) (Tm.mk k2 u2 n2 (Ty.mk tk2 tn2 tks2) ns2 ks2) x y = false by rw [HA.out, if_neg h1, if_pos ⟨by simp [h8], hnn⟩])
      clear HA h1 h8 hnn HIN HN HM HM2 HX HY HR HR2 HLX HLY H_k H_c
      go_enter Try.func78, Try.ntmps78
      go_wp2_with fail
      refine HC0.out.mono ?_
      rintro e w1 ⟨rfl, hb1⟩
      have HY0 := hid ((hb1.block _ (Array.getElem?_eq_some_iff.1 HX0.out).1).trans HX0.out)
      have HY1 := hid ((hb1.block _ (Array.getElem?_eq_some_iff.1 HX1.out).1).trans HX1.out)
      have HB1 := hid hb1
      clear hb1 e0 d0 e1 d1 e2 d2 e3 d3 e4 d4 e5 d5 e6 d6 e7 d7
      have e0 := heap_cell HY0.out (j := 0) rfl
      have e1 := heap_cell HY0.out (j := 1) rfl
      have e2 := heap_cell HY0.out (j := 2) rfl
      have e3 := heap_cell HY0.out (j := 3) rfl
      have e4 := heap_cell HY0.out (j := 4) rfl
      have e5 := heap_cell HY0.out (j := 5) rfl
      have e6 := heap_cell HY0.out (j := 6) rfl
      have e7 := heap_cell HY0.out (j := 7) rfl
      have d0 := heap_cell HY1.out (j := 0) rfl
      have d1 := heap_cell HY1.out (j := 1) rfl
      have d2 := heap_cell HY1.out (j := 2) rfl
      have d3 := heap_cell HY1.out (j := 3) rfl
      have d4 := heap_cell HY1.out (j := 4) rfl
      have d5 := heap_cell HY1.out (j := 5) rfl
      have d6 := heap_cell HY1.out (j := 6) rfl
      have d7 := heap_cell HY1.out (j := 7) rfl
      clear HC0
      go_wp2_with fail
      go_ret
      exact ⟨ret_bool HE.out.symm, (HBX.out.trans (HB1.out.mono HBX.out.size))⟩
    case pos =>
      have hbn := bytes_eq hnn
      have HNM := hid (show ¬ ((k1 = 8 ∨ k1 = 10) ∧ n1 ≠ n2) from fun h => h.2 hnn)
      have g8 : (k1 == 8) = false := by simp [h8]
      have g10 : (k1 == 10) = true := by simp [h8]
      clear h8 hnn
      have HAL := hid (show Tm.alpha (Tm.mk k1 u1 n1 (Ty.mk tk1 tn1 tks1) ns1 ks1) (Tm.mk k2 u2 n2 (Ty.mk tk2 tn2 tks2) ns2 ks2) x y = Tm.alphas k1 n1 ns1 k2 n2 ns2 0 ks1 ks2 x y by rw [HA.out, if_neg h1, if_neg HNM.out])
      have hfn := HR.out.fTm.2.2.2.2.1
      have hgn := HR2.out.fTm.2.2.2.2.1
      obtain ⟨_, _, e, h2, h3, h4⟩ := HR.out.fTm.2.2.2.2.2.eTm
      simp only [Value.slice.injEq, true_and] at e
      obtain ⟨rfl, rfl⟩ := e
      obtain ⟨_, _, e, h2', h3', h4'⟩ := HR2.out.fTm.2.2.2.2.2.eTm
      simp only [Value.slice.injEq, true_and] at e
      obtain ⟨rfl, rfl⟩ := e
      have hbk : Tm.bulks ks1 + ns1.length ≤ Tm.bulk (Tm.mk k1 u1 n1 (Ty.mk tk1 tn1 tks1) ns1 ks1) := by have := Sr.bulks_length ns1; simp only [Tm.bulk]; omega
      have hbk2 : Tm.bulks ks2 + ns2.length ≤ Tm.bulk (Tm.mk k2 u2 n2 (Ty.mk tk2 tn2 tks2) ns2 ks2) := by have := Sr.bulks_length ns2; simp only [Tm.bulk]; omega
      have hlk : ks1.length ≤ 1048576 := by have := Tm.bulks_length ks1; have := HM.out; omega
      have HFN := hid hfn
      have HGN := hid hgn
      have H4 := hid h4
      have H4' := hid h4'
      have HK := hid hbk
      have HK2 := hid hbk2
      clear hfn hgn h2 h3 h4 h2' h3' h4' hbk hbk2 HA h1 HNM HR HR2
      go_enter Try.func78, Try.ntmps78
      go_wp2_with fail
      refine HC0.out.mono ?_
      rintro e w1 ⟨rfl, hb1⟩
      have HY0 := hid ((hb1.block _ (Array.getElem?_eq_some_iff.1 HX0.out).1).trans HX0.out)
      have HY1 := hid ((hb1.block _ (Array.getElem?_eq_some_iff.1 HX1.out).1).trans HX1.out)
      have HB1 := hid hb1
      clear hb1 e0 d0 e1 d1 e2 d2 e3 d3 e4 d4 e5 d5 e6 d6 e7 d7
      have e0 := heap_cell HY0.out (j := 0) rfl
      have e1 := heap_cell HY0.out (j := 1) rfl
      have e2 := heap_cell HY0.out (j := 2) rfl
      have e3 := heap_cell HY0.out (j := 3) rfl
      have e4 := heap_cell HY0.out (j := 4) rfl
      have e5 := heap_cell HY0.out (j := 5) rfl
      have e6 := heap_cell HY0.out (j := 6) rfl
      have e7 := heap_cell HY0.out (j := 7) rfl
      have d0 := heap_cell HY1.out (j := 0) rfl
      have d1 := heap_cell HY1.out (j := 1) rfl
      have d2 := heap_cell HY1.out (j := 2) rfl
      have d3 := heap_cell HY1.out (j := 3) rfl
      have d4 := heap_cell HY1.out (j := 4) rfl
      have d5 := heap_cell HY1.out (j := 5) rfl
      have d6 := heap_cell HY1.out (j := 6) rfl
      have d7 := heap_cell HY1.out (j := 7) rfl
      clear HC0
      have HBW := hid (show Below w.heap.size w w1 from (HBX.out.trans (HB1.out.mono HBX.out.size)))
      have HLX1 := hid (HLX.out.below HBW.out)
      have HLY1 := hid (HLY.out.below HBW.out)
      clear HX0 HX1 HX2 HB1 HBX HLX HLY
      go_wp2_with fail
      clear e0 d0 e1 d1 e2 d2 e3 d3 e4 d4 e5 d5 e6 d6 e7 d7
      go_loopw [11, 87] (fun _ i wr => ∃ (j : Nat), j ≤ ks1.length ∧ i = .int .i64 j ∧ Hid (∀ (i : Nat) t u, i < j → ks1[i]? = some t → ks2[i]? = some u → Tm.alpha t u (x ++ boundOf k1 n1 ns1 (0 + i)) (y ++ boundOf k2 n2 ns2 (0 + i)) = true) ∧ Hid (Below w1.heap.size w1 wr)) (fun _ i _ => ks1.length - (intOf i).toNat)
      case atStart => exact ⟨0, by omega, rfl, fun i t u hi => absurd hi (by omega), Below.refl _ _⟩
      case round =>
        obtain ⟨j, hj, rfl, HJ, HB⟩ := hrel
        by_cases hlt : j < ks1.length
        case neg =>
          have HE := hid (show Tm.alpha (Tm.mk k1 u1 n1 (Ty.mk tk1 tn1 tks1) ns1 ks1) (Tm.mk k2 u2 n2 (Ty.mk tk2 tn2 tks2) ns2 ks2) x y = true by rw [HAL.out]; exact Tm.alphas_yes _ _ _ _ _ _ _ _ _ _ _ (fun i t u h1 h2 => HJ.out i t u (by have := (List.getElem?_eq_some_iff.1 h1).1; omega) h1 h2))
          go_wp2_with fail
          go_ret
          exact ⟨ret_bool HE.out.symm, HBW.out.trans (HB.out.mono HBW.out.size)⟩
        case pos =>
          have hlt' : j < ks2.length := by have := H_c.out; omega
          obtain ⟨b, o, rfl, hbl, hall⟩ := H4.out (by omega)
          obtain ⟨b', o', rfl, hbl', hall'⟩ := H4'.out (by omega)
          obtain ⟨t, ht⟩ : ∃ t, ks1[j]? = some t := ⟨_, List.getElem?_eq_getElem hlt⟩
          obtain ⟨t', ht'⟩ : ∃ t, ks2[j]? = some t := ⟨_, List.getElem?_eq_getElem hlt'⟩
          obtain ⟨k3, u3, n3, ⟨tk3, tn3, tks3⟩, ns3, ks3⟩ := t
          obtain ⟨k4, u4, n4, ⟨tk4, tn4, tks4⟩, ns4, ks4⟩ := t'
          obtain ⟨atks3, ctks3, ans3, cns3, aks3, cks3, q0, q1, q2, q3, q4, q5, q6, q7, hrk⟩ := hall j k3 u3 n3 tk3 tn3 tks3 ns3 ks3 ht
          obtain ⟨atks4, ctks4, ans4, cns4, aks4, cks4, p0, p1, p2, p3, p4, p5, p6, p7, hrk'⟩ := hall' j k4 u4 n4 tk4 tn4 tks4 ns4 ks4 ht'
          have hbg := Tm.bulk_get ks1 j _ ht
          have hbg' := Tm.bulk_get ks2 j _ ht'
          have hb1l := boundOf_len' k1 n1 ns1 j
          have hb2l := boundOf_len' k2 n2 ns2 j
          have hle1 : x.length + (boundOf k1 n1 ns1 j).length ≤ 4194304 := by have := HK.out; have := HX.out; omega
          have hle2 : y.length + (boundOf k2 n2 ns2 j).length ≤ 4194304 := by have := HK2.out; have := HY.out; omega
          have hup := fun (W : World) (hW : Below w1.heap.size w1 W) => HBW.out.trans (hW.mono HBW.out.size)
          have hbn1 := fun (W : World) (hW : Below w1.heap.size w1 W) => impl_bound k1 u1 n1 tk1 tn1 tks1 ns1 ks1 atks1 ctks1 ans1 cns1 (some ⟨b, o, none⟩) cks1 j W (HFN.out.below (hup W hW))
          have hbn2 := fun (W : World) (hW : Below w1.heap.size w1 W) => impl_bound k2 u2 n2 tk2 tn2 tks2 ns2 ks2 atks2 ctks2 ans2 cns2 (some ⟨b', o', none⟩) cks2 j W (HGN.out.below (hup W hW))
          have hc := fun va vb (W : World) (hW : Below w1.heap.size w1 W) hs hs' => HIN.out k3 u3 n3 tk3 tn3 tks3 ns3 ks3 atks3 ctks3 ans3 cns3 aks3 cks3 k4 u4 n4 tk4 tn4 tks4 ns4 ks4 atks4 ctks4 ans4 cns4 aks4 cks4 (x ++ boundOf k1 n1 ns1 j) (y ++ boundOf k2 n2 ns2 j) va vb W (by have := HK.out; have := HN.out; omega) (by have := HK.out; have := HM.out; omega) (by have := HK2.out; have := HM2.out; omega) (by have := HK.out; have := HX.out; rw [List.length_append]; omega) (by have := HK2.out; have := HY.out; rw [List.length_append]; omega) (hrk.below (hup W hW)) (hrk'.below (hup W hW)) hs hs'
          generalize hbo : boundOf k1 n1 ns1 j = bs1 at hbn1 hc hle1
          generalize hbo2 : boundOf k2 n2 ns2 j = bs2 at hbn2 hc hle2
          have HBN1 := hid hbn1
          have HBN2 := hid hbn2
          generalize hq : Tm.alpha (Tm.mk k3 u3 n3 (Ty.mk tk3 tn3 tks3) ns3 ks3) (Tm.mk k4 u4 n4 (Ty.mk tk4 tn4 tks4) ns4 ks4) (x ++ bs1) (y ++ bs2) = r at hc
          have HC := hid hc
          have HLE1 := hid hle1
          have HLE2 := hid hle2
          have HR3 := hid (show Tm.alpha (Tm.mk k3 u3 n3 (Ty.mk tk3 tn3 tks3) ns3 ks3) (Tm.mk k4 u4 n4 (Ty.mk tk4 tn4 tks4) ns4 ks4) (x ++ boundOf k1 n1 ns1 (0 + j)) (y ++ boundOf k2 n2 ns2 (0 + j)) = r by rw [Nat.zero_add, hbo, hbo2]; exact hq)
          have HT := hid ht
          have HT' := hid ht'
          have hS : ∀ V : World, Below w1.heap.size w1 V → Below w1.heap.size w1 V ∧ V.cell? ⟨w.heap.size, 0, none⟩ = some (.int .i64 k1) ∧ V.cell? ⟨w.heap.size, 1, none⟩ = some (.int .i64 u1) ∧ V.cell? ⟨w.heap.size, 2, none⟩ = some (.string n1) ∧ V.cell? ⟨w.heap.size, 3, none⟩ = some (.int .i64 tk1) ∧ V.cell? ⟨w.heap.size, 4, none⟩ = some (.string tn1) ∧ V.cell? ⟨w.heap.size, 5, none⟩ = some (.slice atks1 tks1.length ctks1) ∧ V.cell? ⟨w.heap.size, 6, none⟩ = some (.slice ans1 ns1.length cns1) ∧ V.cell? ⟨w.heap.size, 7, none⟩ = some (.slice (some ⟨b, o, none⟩) ks1.length cks1) ∧ V.cell? ⟨w.heap.size + 1, 0, none⟩ = some (.int .i64 k2) ∧ V.cell? ⟨w.heap.size + 1, 1, none⟩ = some (.int .i64 u2) ∧ V.cell? ⟨w.heap.size + 1, 2, none⟩ = some (.string n2) ∧ V.cell? ⟨w.heap.size + 1, 3, none⟩ = some (.int .i64 tk2) ∧ V.cell? ⟨w.heap.size + 1, 4, none⟩ = some (.string tn2) ∧ V.cell? ⟨w.heap.size + 1, 5, none⟩ = some (.slice atks2 tks2.length ctks2) ∧ V.cell? ⟨w.heap.size + 1, 6, none⟩ = some (.slice ans2 ns2.length cns2) ∧ V.cell? ⟨w.heap.size + 1, 7, none⟩ = some (.slice (some ⟨b', o', none⟩) ks2.length cks2) ∧ V.cell? ⟨b, o + j * 8, none⟩ = some (.int .i64 k3) ∧ V.cell? ⟨b, o + j * 8 + 1, none⟩ = some (.int .i64 u3) ∧ V.cell? ⟨b, o + j * 8 + 2, none⟩ = some (.string n3) ∧ V.cell? ⟨b, o + j * 8 + 3, none⟩ = some (.int .i64 tk3) ∧ V.cell? ⟨b, o + j * 8 + 4, none⟩ = some (.string tn3) ∧ V.cell? ⟨b, o + j * 8 + 5, none⟩ = some (.slice atks3 tks3.length ctks3) ∧ V.cell? ⟨b, o + j * 8 + 6, none⟩ = some (.slice ans3 ns3.length cns3) ∧ V.cell? ⟨b, o + j * 8 + 7, none⟩ = some (.slice aks3 ks3.length cks3) ∧ V.cell? ⟨b', o' + j * 8, none⟩ = some (.int .i64 k4) ∧ V.cell? ⟨b', o' + j * 8 + 1, none⟩ = some (.int .i64 u4) ∧ V.cell? ⟨b', o' + j * 8 + 2, none⟩ = some (.string n4) ∧ V.cell? ⟨b', o' + j * 8 + 3, none⟩ = some (.int .i64 tk4) ∧ V.cell? ⟨b', o' + j * 8 + 4, none⟩ = some (.string tn4) ∧ V.cell? ⟨b', o' + j * 8 + 5, none⟩ = some (.slice atks4 tks4.length ctks4) ∧ V.cell? ⟨b', o' + j * 8 + 6, none⟩ = some (.slice ans4 ns4.length cns4) ∧ V.cell? ⟨b', o' + j * 8 + 7, none⟩ = some (.slice aks4 ks4.length cks4) := fun V hV => by
            have k0 := heap_lift HY0.out hV
            have k1 := heap_lift HY1.out hV
            have hu := hup V hV
            exact ⟨hV, heap_cell k0 (j := 0) rfl, heap_cell k0 (j := 1) rfl, heap_cell k0 (j := 2) rfl, heap_cell k0 (j := 3) rfl, heap_cell k0 (j := 4) rfl, heap_cell k0 (j := 5) rfl, heap_cell k0 (j := 6) rfl, heap_cell k0 (j := 7) rfl, heap_cell k1 (j := 0) rfl, heap_cell k1 (j := 1) rfl, heap_cell k1 (j := 2) rfl, heap_cell k1 (j := 3) rfl, heap_cell k1 (j := 4) rfl, heap_cell k1 (j := 5) rfl, heap_cell k1 (j := 6) rfl, heap_cell k1 (j := 7) rfl, (hu.cell (p := ⟨b, o + j * 8, none⟩) hbl).trans q0, (hu.cell (p := ⟨b, o + j * 8 + 1, none⟩) hbl).trans q1, (hu.cell (p := ⟨b, o + j * 8 + 2, none⟩) hbl).trans q2, (hu.cell (p := ⟨b, o + j * 8 + 3, none⟩) hbl).trans q3, (hu.cell (p := ⟨b, o + j * 8 + 4, none⟩) hbl).trans q4, (hu.cell (p := ⟨b, o + j * 8 + 5, none⟩) hbl).trans q5, (hu.cell (p := ⟨b, o + j * 8 + 6, none⟩) hbl).trans q6, (hu.cell (p := ⟨b, o + j * 8 + 7, none⟩) hbl).trans q7, (hu.cell (p := ⟨b', o' + j * 8, none⟩) hbl').trans p0, (hu.cell (p := ⟨b', o' + j * 8 + 1, none⟩) hbl').trans p1, (hu.cell (p := ⟨b', o' + j * 8 + 2, none⟩) hbl').trans p2, (hu.cell (p := ⟨b', o' + j * 8 + 3, none⟩) hbl').trans p3, (hu.cell (p := ⟨b', o' + j * 8 + 4, none⟩) hbl').trans p4, (hu.cell (p := ⟨b', o' + j * 8 + 5, none⟩) hbl').trans p5, (hu.cell (p := ⟨b', o' + j * 8 + 6, none⟩) hbl').trans p6, (hu.cell (p := ⟨b', o' + j * 8 + 7, none⟩) hbl').trans p7⟩
          have HS := hid hS
          have hbd : Below w1.heap.size w1 wr.drew := HB.out.drew
          have HLXD := hid (HLX1.out.below hbd)
          have HLYD := hid (HLY1.out.below hbd)
          have HSD := hid (hS _ hbd)
          obtain ⟨-, s0, s1, s2, s3, s4, s5, s6, s7, s8, s9, s10, s11, s12, s13, s14, s15, s16, s17, s18, s19, s20, s21, s22, s23, s24, s25, s26, s27, s28, s29, s30, s31⟩ := hS _ hbd
          clear hall hall' H4 H4' q0 q1 q2 q3 q4 q5 q6 q7 p0 p1 p2 p3 p4 p5 p6 p7 hrk hrk' hbg hbg' hb1l hb2l hle1 hle2 hbn1 hbn2 hc hbo hbo2 hq ht ht' hS hup
          go_wp2_with fail
          go_region_held3 (fun V => Below w1.heap.size w1 V ∧ V.cell? ⟨w.heap.size, 0, none⟩ = some (.int .i64 k1) ∧ V.cell? ⟨w.heap.size, 1, none⟩ = some (.int .i64 u1) ∧ V.cell? ⟨w.heap.size, 2, none⟩ = some (.string n1) ∧ V.cell? ⟨w.heap.size, 3, none⟩ = some (.int .i64 tk1) ∧ V.cell? ⟨w.heap.size, 4, none⟩ = some (.string tn1) ∧ V.cell? ⟨w.heap.size, 5, none⟩ = some (.slice atks1 tks1.length ctks1) ∧ V.cell? ⟨w.heap.size, 6, none⟩ = some (.slice ans1 ns1.length cns1) ∧ V.cell? ⟨w.heap.size, 7, none⟩ = some (.slice (some ⟨b, o, none⟩) ks1.length cks1) ∧ V.cell? ⟨w.heap.size + 1, 0, none⟩ = some (.int .i64 k2) ∧ V.cell? ⟨w.heap.size + 1, 1, none⟩ = some (.int .i64 u2) ∧ V.cell? ⟨w.heap.size + 1, 2, none⟩ = some (.string n2) ∧ V.cell? ⟨w.heap.size + 1, 3, none⟩ = some (.int .i64 tk2) ∧ V.cell? ⟨w.heap.size + 1, 4, none⟩ = some (.string tn2) ∧ V.cell? ⟨w.heap.size + 1, 5, none⟩ = some (.slice atks2 tks2.length ctks2) ∧ V.cell? ⟨w.heap.size + 1, 6, none⟩ = some (.slice ans2 ns2.length cns2) ∧ V.cell? ⟨w.heap.size + 1, 7, none⟩ = some (.slice (some ⟨b', o', none⟩) ks2.length cks2) ∧ V.cell? ⟨b, o + j * 8, none⟩ = some (.int .i64 k3) ∧ V.cell? ⟨b, o + j * 8 + 1, none⟩ = some (.int .i64 u3) ∧ V.cell? ⟨b, o + j * 8 + 2, none⟩ = some (.string n3) ∧ V.cell? ⟨b, o + j * 8 + 3, none⟩ = some (.int .i64 tk3) ∧ V.cell? ⟨b, o + j * 8 + 4, none⟩ = some (.string tn3) ∧ V.cell? ⟨b, o + j * 8 + 5, none⟩ = some (.slice atks3 tks3.length ctks3) ∧ V.cell? ⟨b, o + j * 8 + 6, none⟩ = some (.slice ans3 ns3.length cns3) ∧ V.cell? ⟨b, o + j * 8 + 7, none⟩ = some (.slice aks3 ks3.length cks3) ∧ V.cell? ⟨b', o' + j * 8, none⟩ = some (.int .i64 k4) ∧ V.cell? ⟨b', o' + j * 8 + 1, none⟩ = some (.int .i64 u4) ∧ V.cell? ⟨b', o' + j * 8 + 2, none⟩ = some (.string n4) ∧ V.cell? ⟨b', o' + j * 8 + 3, none⟩ = some (.int .i64 tk4) ∧ V.cell? ⟨b', o' + j * 8 + 4, none⟩ = some (.string tn4) ∧ V.cell? ⟨b', o' + j * 8 + 5, none⟩ = some (.slice atks4 tks4.length ctks4) ∧ V.cell? ⟨b', o' + j * 8 + 6, none⟩ = some (.slice ans4 ns4.length cns4) ∧ V.cell? ⟨b', o' + j * 8 + 7, none⟩ = some (.slice aks4 ks4.length cks4))
            (first | assumption | exact HSD.out | exact HS.out _ hbd | exact HS.out _ hbA | go_keep)
            (first
              | (go_at_call 128; (with_reducible refine (HBN1.out _ hbd).mono ?_); rintro e W2 ⟨vb, rfl, hsb, hb2⟩; have hsb' := hsb; obtain ⟨ab, cb, rfl, -⟩ := hsb'; have hbd' := hbd.trans (hb2.mono hbd.size); clear hbd; have hbd := hbd'; clear hbd'; have hal := (Below.refl W2.heap.size W2).alloc (Nat.le_refl _) (.cells #[.slice ax x.length cx, .slice ab bs1.length cb] 47); have hbA := hbd.trans (hal.mono hbd.size); have HLYE := hid ((HLYD.out.below hb2).below hal); have HCAT := hid (concat_L x bs1 _ (.slice ab bs1.length cb) W2.heap.size _ (two_newA W2 (.slice ax x.length cx) (.slice ab bs1.length cb) 47) (two_newB W2 (.slice ax x.length cx) (.slice ab bs1.length cb) 47) ((HLXD.out.below hb2).below hal) (hsb.below hal) HLE1.out); clear hsb hb2 hal HBN1)
              | (go_at_call 127; (with_reducible refine HCAT.out.mono ?_); rintro e W3 ⟨vw, rfl, how, hb3⟩; have HOW := hid (StrsL.of_own how); have HLYF := hid (HLYE.out.below hb3); clear hbd; have hbd := hbA.trans (hb3.mono hbA.size); clear how hb3 hbA HCAT HLYE)
              | (go_at_call 128; (with_reducible refine (HBN2.out _ hbd).mono ?_); rintro e W4 ⟨vb, rfl, hsb, hb2⟩; have hsb' := hsb; obtain ⟨ab2, cb2, rfl, -⟩ := hsb'; have hbd' := hbd.trans (hb2.mono hbd.size); clear hbd; have hbd := hbd'; clear hbd'; have hal := (Below.refl W4.heap.size W4).alloc (Nat.le_refl _) (.cells #[.slice ay y.length cy, .slice ab2 bs2.length cb2] 47); have hbA := hbd.trans (hal.mono hbd.size); have HOW2 := hid ((HOW.out.below hb2).below hal); have HCAT2 := hid (concat_L y bs2 _ (.slice ab2 bs2.length cb2) W4.heap.size _ (two_newA W4 (.slice ay y.length cy) (.slice ab2 bs2.length cb2) 47) (two_newB W4 (.slice ay y.length cy) (.slice ab2 bs2.length cb2) 47) ((HLYF.out.below hb2).below hal) (hsb.below hal) HLE2.out); clear hsb hb2 hal HBN2)
              | (go_at_call 127; (with_reducible refine HCAT2.out.mono ?_); rintro e W5 ⟨vw2, rfl, how, hb3⟩; have HOW4 := hid (StrsL.of_own how); have HOW3 := hid (HOW2.out.below hb3); clear hbd; have hbd := hbA.trans (hb3.mono hbA.size); clear how hb3 hbA HCAT2 HOW2)
              | (go_at_call 78; (with_reducible refine (HC.out _ _ _ hbd ?_ ?_).mono ?_); (exact HOW3.out); (exact HOW4.out); rintro e W6 ⟨rfl, hb6⟩; have hbd' := hbd.trans (hb6.mono hbd.size); clear hbd; have hbd := hbd'; clear hbd' hb6))
          have HBZ := hid hbd
          clear hbd s0 s1 s2 s3 s4 s5 s6 s7 s8 s9 s10 s11 s12 s13 s14 s15 s16 s17 s18 s19 s20 s21 s22 s23 s24 s25 s26 s27 s28 s29 s30 s31
          cases r
          case false =>
            have HE := hid (show Tm.alpha (Tm.mk k1 u1 n1 (Ty.mk tk1 tn1 tks1) ns1 ks1) (Tm.mk k2 u2 n2 (Ty.mk tk2 tn2 tks2) ns2 ks2) x y = false by rw [HAL.out]; exact Tm.alphas_no _ _ _ _ _ _ _ _ _ _ _ _ _ _ HT.out HT'.out HR3.out)
            go_wp2_with fail
            go_ret
            exact ⟨ret_bool HE.out.symm, HBW.out.trans (HBZ.out.mono HBW.out.size)⟩
          case true =>
            go_wp2_with fail
            go_roundw
            case rel =>
              refine ⟨j + 1, by omega, by go_num, hid fun i t u hi h1 h2 => ?_, HBZ⟩
              rcases Nat.lt_succ_iff_lt_or_eq.1 hi with hi | rfl
              · exact HJ.out i t u hi h1 h2
              · obtain rfl := Option.some.inj (h1.symm.trans HT.out)
                obtain rfl := Option.some.inj (h2.symm.trans HT'.out)
                exact HR3.out
            case measure => simp [intOf]; omega
  case neg =>
  have H10 := hid h8
  clear h8
  have g8 : (k1 == 8) = false := by have := H8.out; simpa using this
  have g10 : (k1 == 10) = false := by have := H10.out; simpa using this
  have HNM := hid (show ¬ ((k1 = 8 ∨ k1 = 10) ∧ n1 ≠ n2) from fun h => h.1.elim H8.out H10.out)
  have HAL := hid (show Tm.alpha (Tm.mk k1 u1 n1 (Ty.mk tk1 tn1 tks1) ns1 ks1) (Tm.mk k2 u2 n2 (Ty.mk tk2 tn2 tks2) ns2 ks2) x y = Tm.alphas k1 n1 ns1 k2 n2 ns2 0 ks1 ks2 x y by rw [HA.out, if_neg h1, if_neg HNM.out])
  have hfn := HR.out.fTm.2.2.2.2.1
  have hgn := HR2.out.fTm.2.2.2.2.1
  obtain ⟨_, _, e, h2, h3, h4⟩ := HR.out.fTm.2.2.2.2.2.eTm
  simp only [Value.slice.injEq, true_and] at e
  obtain ⟨rfl, rfl⟩ := e
  obtain ⟨_, _, e, h2', h3', h4'⟩ := HR2.out.fTm.2.2.2.2.2.eTm
  simp only [Value.slice.injEq, true_and] at e
  obtain ⟨rfl, rfl⟩ := e
  have hbk : Tm.bulks ks1 + ns1.length ≤ Tm.bulk (Tm.mk k1 u1 n1 (Ty.mk tk1 tn1 tks1) ns1 ks1) := by have := Sr.bulks_length ns1; simp only [Tm.bulk]; omega
  have hbk2 : Tm.bulks ks2 + ns2.length ≤ Tm.bulk (Tm.mk k2 u2 n2 (Ty.mk tk2 tn2 tks2) ns2 ks2) := by have := Sr.bulks_length ns2; simp only [Tm.bulk]; omega
  have hlk : ks1.length ≤ 1048576 := by have := Tm.bulks_length ks1; have := HM.out; omega
  have HFN := hid hfn
  have HGN := hid hgn
  have H4 := hid h4
  have H4' := hid h4'
  have HK := hid hbk
  have HK2 := hid hbk2
  clear hfn hgn h2 h3 h4 h2' h3' h4' hbk hbk2 HA h1 HNM HR HR2
  go_enter Try.func78, Try.ntmps78
  go_wp2_with fail
  refine HC0.out.mono ?_
  rintro e w1 ⟨rfl, hb1⟩
  have HY0 := hid ((hb1.block _ (Array.getElem?_eq_some_iff.1 HX0.out).1).trans HX0.out)
  have HY1 := hid ((hb1.block _ (Array.getElem?_eq_some_iff.1 HX1.out).1).trans HX1.out)
  have HB1 := hid hb1
  clear hb1 e0 d0 e1 d1 e2 d2 e3 d3 e4 d4 e5 d5 e6 d6 e7 d7
  have e0 := heap_cell HY0.out (j := 0) rfl
  have e1 := heap_cell HY0.out (j := 1) rfl
  have e2 := heap_cell HY0.out (j := 2) rfl
  have e3 := heap_cell HY0.out (j := 3) rfl
  have e4 := heap_cell HY0.out (j := 4) rfl
  have e5 := heap_cell HY0.out (j := 5) rfl
  have e6 := heap_cell HY0.out (j := 6) rfl
  have e7 := heap_cell HY0.out (j := 7) rfl
  have d0 := heap_cell HY1.out (j := 0) rfl
  have d1 := heap_cell HY1.out (j := 1) rfl
  have d2 := heap_cell HY1.out (j := 2) rfl
  have d3 := heap_cell HY1.out (j := 3) rfl
  have d4 := heap_cell HY1.out (j := 4) rfl
  have d5 := heap_cell HY1.out (j := 5) rfl
  have d6 := heap_cell HY1.out (j := 6) rfl
  have d7 := heap_cell HY1.out (j := 7) rfl
  clear HC0
  have HBW := hid (show Below w.heap.size w w1 from (HBX.out.trans (HB1.out.mono HBX.out.size)))
  have HLX1 := hid (HLX.out.below HBW.out)
  have HLY1 := hid (HLY.out.below HBW.out)
  clear HX0 HX1 HX2 HB1 HBX HLX HLY
  go_wp2_with fail
  clear e0 d0 e1 d1 e2 d2 e3 d3 e4 d4 e5 d5 e6 d6 e7 d7
  go_loopw [11, 87] (fun _ i wr => ∃ (j : Nat), j ≤ ks1.length ∧ i = .int .i64 j ∧ Hid (∀ (i : Nat) t u, i < j → ks1[i]? = some t → ks2[i]? = some u → Tm.alpha t u (x ++ boundOf k1 n1 ns1 (0 + i)) (y ++ boundOf k2 n2 ns2 (0 + i)) = true) ∧ Hid (Below w1.heap.size w1 wr)) (fun _ i _ => ks1.length - (intOf i).toNat)
  case atStart => exact ⟨0, by omega, rfl, fun i t u hi => absurd hi (by omega), Below.refl _ _⟩
  case round =>
    obtain ⟨j, hj, rfl, HJ, HB⟩ := hrel
    by_cases hlt : j < ks1.length
    case neg =>
      have HE := hid (show Tm.alpha (Tm.mk k1 u1 n1 (Ty.mk tk1 tn1 tks1) ns1 ks1) (Tm.mk k2 u2 n2 (Ty.mk tk2 tn2 tks2) ns2 ks2) x y = true by rw [HAL.out]; exact Tm.alphas_yes _ _ _ _ _ _ _ _ _ _ _ (fun i t u h1 h2 => HJ.out i t u (by have := (List.getElem?_eq_some_iff.1 h1).1; omega) h1 h2))
      go_wp2_with fail
      go_ret
      exact ⟨ret_bool HE.out.symm, HBW.out.trans (HB.out.mono HBW.out.size)⟩
    case pos =>
      have hlt' : j < ks2.length := by have := H_c.out; omega
      obtain ⟨b, o, rfl, hbl, hall⟩ := H4.out (by omega)
      obtain ⟨b', o', rfl, hbl', hall'⟩ := H4'.out (by omega)
      obtain ⟨t, ht⟩ : ∃ t, ks1[j]? = some t := ⟨_, List.getElem?_eq_getElem hlt⟩
      obtain ⟨t', ht'⟩ : ∃ t, ks2[j]? = some t := ⟨_, List.getElem?_eq_getElem hlt'⟩
      obtain ⟨k3, u3, n3, ⟨tk3, tn3, tks3⟩, ns3, ks3⟩ := t
      obtain ⟨k4, u4, n4, ⟨tk4, tn4, tks4⟩, ns4, ks4⟩ := t'
      obtain ⟨atks3, ctks3, ans3, cns3, aks3, cks3, q0, q1, q2, q3, q4, q5, q6, q7, hrk⟩ := hall j k3 u3 n3 tk3 tn3 tks3 ns3 ks3 ht
      obtain ⟨atks4, ctks4, ans4, cns4, aks4, cks4, p0, p1, p2, p3, p4, p5, p6, p7, hrk'⟩ := hall' j k4 u4 n4 tk4 tn4 tks4 ns4 ks4 ht'
      have hbg := Tm.bulk_get ks1 j _ ht
      have hbg' := Tm.bulk_get ks2 j _ ht'
      have hb1l := boundOf_len' k1 n1 ns1 j
      have hb2l := boundOf_len' k2 n2 ns2 j
      have hle1 : x.length + (boundOf k1 n1 ns1 j).length ≤ 4194304 := by have := HK.out; have := HX.out; omega
      have hle2 : y.length + (boundOf k2 n2 ns2 j).length ≤ 4194304 := by have := HK2.out; have := HY.out; omega
      have hup := fun (W : World) (hW : Below w1.heap.size w1 W) => HBW.out.trans (hW.mono HBW.out.size)
      have hbn1 := fun (W : World) (hW : Below w1.heap.size w1 W) => impl_bound k1 u1 n1 tk1 tn1 tks1 ns1 ks1 atks1 ctks1 ans1 cns1 (some ⟨b, o, none⟩) cks1 j W (HFN.out.below (hup W hW))
      have hbn2 := fun (W : World) (hW : Below w1.heap.size w1 W) => impl_bound k2 u2 n2 tk2 tn2 tks2 ns2 ks2 atks2 ctks2 ans2 cns2 (some ⟨b', o', none⟩) cks2 j W (HGN.out.below (hup W hW))
      have hc := fun va vb (W : World) (hW : Below w1.heap.size w1 W) hs hs' => HIN.out k3 u3 n3 tk3 tn3 tks3 ns3 ks3 atks3 ctks3 ans3 cns3 aks3 cks3 k4 u4 n4 tk4 tn4 tks4 ns4 ks4 atks4 ctks4 ans4 cns4 aks4 cks4 (x ++ boundOf k1 n1 ns1 j) (y ++ boundOf k2 n2 ns2 j) va vb W (by have := HK.out; have := HN.out; omega) (by have := HK.out; have := HM.out; omega) (by have := HK2.out; have := HM2.out; omega) (by have := HK.out; have := HX.out; rw [List.length_append]; omega) (by have := HK2.out; have := HY.out; rw [List.length_append]; omega) (hrk.below (hup W hW)) (hrk'.below (hup W hW)) hs hs'
      generalize hbo : boundOf k1 n1 ns1 j = bs1 at hbn1 hc hle1
      generalize hbo2 : boundOf k2 n2 ns2 j = bs2 at hbn2 hc hle2
      have HBN1 := hid hbn1
      have HBN2 := hid hbn2
      generalize hq : Tm.alpha (Tm.mk k3 u3 n3 (Ty.mk tk3 tn3 tks3) ns3 ks3) (Tm.mk k4 u4 n4 (Ty.mk tk4 tn4 tks4) ns4 ks4) (x ++ bs1) (y ++ bs2) = r at hc
      have HC := hid hc
      have HLE1 := hid hle1
      have HLE2 := hid hle2
      have HR3 := hid (show Tm.alpha (Tm.mk k3 u3 n3 (Ty.mk tk3 tn3 tks3) ns3 ks3) (Tm.mk k4 u4 n4 (Ty.mk tk4 tn4 tks4) ns4 ks4) (x ++ boundOf k1 n1 ns1 (0 + j)) (y ++ boundOf k2 n2 ns2 (0 + j)) = r by rw [Nat.zero_add, hbo, hbo2]; exact hq)
      have HT := hid ht
      have HT' := hid ht'
      have hS : ∀ V : World, Below w1.heap.size w1 V → Below w1.heap.size w1 V ∧ V.cell? ⟨w.heap.size, 0, none⟩ = some (.int .i64 k1) ∧ V.cell? ⟨w.heap.size, 1, none⟩ = some (.int .i64 u1) ∧ V.cell? ⟨w.heap.size, 2, none⟩ = some (.string n1) ∧ V.cell? ⟨w.heap.size, 3, none⟩ = some (.int .i64 tk1) ∧ V.cell? ⟨w.heap.size, 4, none⟩ = some (.string tn1) ∧ V.cell? ⟨w.heap.size, 5, none⟩ = some (.slice atks1 tks1.length ctks1) ∧ V.cell? ⟨w.heap.size, 6, none⟩ = some (.slice ans1 ns1.length cns1) ∧ V.cell? ⟨w.heap.size, 7, none⟩ = some (.slice (some ⟨b, o, none⟩) ks1.length cks1) ∧ V.cell? ⟨w.heap.size + 1, 0, none⟩ = some (.int .i64 k2) ∧ V.cell? ⟨w.heap.size + 1, 1, none⟩ = some (.int .i64 u2) ∧ V.cell? ⟨w.heap.size + 1, 2, none⟩ = some (.string n2) ∧ V.cell? ⟨w.heap.size + 1, 3, none⟩ = some (.int .i64 tk2) ∧ V.cell? ⟨w.heap.size + 1, 4, none⟩ = some (.string tn2) ∧ V.cell? ⟨w.heap.size + 1, 5, none⟩ = some (.slice atks2 tks2.length ctks2) ∧ V.cell? ⟨w.heap.size + 1, 6, none⟩ = some (.slice ans2 ns2.length cns2) ∧ V.cell? ⟨w.heap.size + 1, 7, none⟩ = some (.slice (some ⟨b', o', none⟩) ks2.length cks2) ∧ V.cell? ⟨b, o + j * 8, none⟩ = some (.int .i64 k3) ∧ V.cell? ⟨b, o + j * 8 + 1, none⟩ = some (.int .i64 u3) ∧ V.cell? ⟨b, o + j * 8 + 2, none⟩ = some (.string n3) ∧ V.cell? ⟨b, o + j * 8 + 3, none⟩ = some (.int .i64 tk3) ∧ V.cell? ⟨b, o + j * 8 + 4, none⟩ = some (.string tn3) ∧ V.cell? ⟨b, o + j * 8 + 5, none⟩ = some (.slice atks3 tks3.length ctks3) ∧ V.cell? ⟨b, o + j * 8 + 6, none⟩ = some (.slice ans3 ns3.length cns3) ∧ V.cell? ⟨b, o + j * 8 + 7, none⟩ = some (.slice aks3 ks3.length cks3) ∧ V.cell? ⟨b', o' + j * 8, none⟩ = some (.int .i64 k4) ∧ V.cell? ⟨b', o' + j * 8 + 1, none⟩ = some (.int .i64 u4) ∧ V.cell? ⟨b', o' + j * 8 + 2, none⟩ = some (.string n4) ∧ V.cell? ⟨b', o' + j * 8 + 3, none⟩ = some (.int .i64 tk4) ∧ V.cell? ⟨b', o' + j * 8 + 4, none⟩ = some (.string tn4) ∧ V.cell? ⟨b', o' + j * 8 + 5, none⟩ = some (.slice atks4 tks4.length ctks4) ∧ V.cell? ⟨b', o' + j * 8 + 6, none⟩ = some (.slice ans4 ns4.length cns4) ∧ V.cell? ⟨b', o' + j * 8 + 7, none⟩ = some (.slice aks4 ks4.length cks4) := fun V hV => by
        have k0 := heap_lift HY0.out hV
        have k1 := heap_lift HY1.out hV
        have hu := hup V hV
        exact ⟨hV, heap_cell k0 (j := 0) rfl, heap_cell k0 (j := 1) rfl, heap_cell k0 (j := 2) rfl, heap_cell k0 (j := 3) rfl, heap_cell k0 (j := 4) rfl, heap_cell k0 (j := 5) rfl, heap_cell k0 (j := 6) rfl, heap_cell k0 (j := 7) rfl, heap_cell k1 (j := 0) rfl, heap_cell k1 (j := 1) rfl, heap_cell k1 (j := 2) rfl, heap_cell k1 (j := 3) rfl, heap_cell k1 (j := 4) rfl, heap_cell k1 (j := 5) rfl, heap_cell k1 (j := 6) rfl, heap_cell k1 (j := 7) rfl, (hu.cell (p := ⟨b, o + j * 8, none⟩) hbl).trans q0, (hu.cell (p := ⟨b, o + j * 8 + 1, none⟩) hbl).trans q1, (hu.cell (p := ⟨b, o + j * 8 + 2, none⟩) hbl).trans q2, (hu.cell (p := ⟨b, o + j * 8 + 3, none⟩) hbl).trans q3, (hu.cell (p := ⟨b, o + j * 8 + 4, none⟩) hbl).trans q4, (hu.cell (p := ⟨b, o + j * 8 + 5, none⟩) hbl).trans q5, (hu.cell (p := ⟨b, o + j * 8 + 6, none⟩) hbl).trans q6, (hu.cell (p := ⟨b, o + j * 8 + 7, none⟩) hbl).trans q7, (hu.cell (p := ⟨b', o' + j * 8, none⟩) hbl').trans p0, (hu.cell (p := ⟨b', o' + j * 8 + 1, none⟩) hbl').trans p1, (hu.cell (p := ⟨b', o' + j * 8 + 2, none⟩) hbl').trans p2, (hu.cell (p := ⟨b', o' + j * 8 + 3, none⟩) hbl').trans p3, (hu.cell (p := ⟨b', o' + j * 8 + 4, none⟩) hbl').trans p4, (hu.cell (p := ⟨b', o' + j * 8 + 5, none⟩) hbl').trans p5, (hu.cell (p := ⟨b', o' + j * 8 + 6, none⟩) hbl').trans p6, (hu.cell (p := ⟨b', o' + j * 8 + 7, none⟩) hbl').trans p7⟩
      have HS := hid hS
      have hbd : Below w1.heap.size w1 wr.drew := HB.out.drew
      have HLXD := hid (HLX1.out.below hbd)
      have HLYD := hid (HLY1.out.below hbd)
      have HSD := hid (hS _ hbd)
      obtain ⟨-, s0, s1, s2, s3, s4, s5, s6, s7, s8, s9, s10, s11, s12, s13, s14, s15, s16, s17, s18, s19, s20, s21, s22, s23, s24, s25, s26, s27, s28, s29, s30, s31⟩ := hS _ hbd
      clear hall hall' H4 H4' q0 q1 q2 q3 q4 q5 q6 q7 p0 p1 p2 p3 p4 p5 p6 p7 hrk hrk' hbg hbg' hb1l hb2l hle1 hle2 hbn1 hbn2 hc hbo hbo2 hq ht ht' hS hup
      go_wp2_with fail
      go_region_held3 (fun V => Below w1.heap.size w1 V ∧ V.cell? ⟨w.heap.size, 0, none⟩ = some (.int .i64 k1) ∧ V.cell? ⟨w.heap.size, 1, none⟩ = some (.int .i64 u1) ∧ V.cell? ⟨w.heap.size, 2, none⟩ = some (.string n1) ∧ V.cell? ⟨w.heap.size, 3, none⟩ = some (.int .i64 tk1) ∧ V.cell? ⟨w.heap.size, 4, none⟩ = some (.string tn1) ∧ V.cell? ⟨w.heap.size, 5, none⟩ = some (.slice atks1 tks1.length ctks1) ∧ V.cell? ⟨w.heap.size, 6, none⟩ = some (.slice ans1 ns1.length cns1) ∧ V.cell? ⟨w.heap.size, 7, none⟩ = some (.slice (some ⟨b, o, none⟩) ks1.length cks1) ∧ V.cell? ⟨w.heap.size + 1, 0, none⟩ = some (.int .i64 k2) ∧ V.cell? ⟨w.heap.size + 1, 1, none⟩ = some (.int .i64 u2) ∧ V.cell? ⟨w.heap.size + 1, 2, none⟩ = some (.string n2) ∧ V.cell? ⟨w.heap.size + 1, 3, none⟩ = some (.int .i64 tk2) ∧ V.cell? ⟨w.heap.size + 1, 4, none⟩ = some (.string tn2) ∧ V.cell? ⟨w.heap.size + 1, 5, none⟩ = some (.slice atks2 tks2.length ctks2) ∧ V.cell? ⟨w.heap.size + 1, 6, none⟩ = some (.slice ans2 ns2.length cns2) ∧ V.cell? ⟨w.heap.size + 1, 7, none⟩ = some (.slice (some ⟨b', o', none⟩) ks2.length cks2) ∧ V.cell? ⟨b, o + j * 8, none⟩ = some (.int .i64 k3) ∧ V.cell? ⟨b, o + j * 8 + 1, none⟩ = some (.int .i64 u3) ∧ V.cell? ⟨b, o + j * 8 + 2, none⟩ = some (.string n3) ∧ V.cell? ⟨b, o + j * 8 + 3, none⟩ = some (.int .i64 tk3) ∧ V.cell? ⟨b, o + j * 8 + 4, none⟩ = some (.string tn3) ∧ V.cell? ⟨b, o + j * 8 + 5, none⟩ = some (.slice atks3 tks3.length ctks3) ∧ V.cell? ⟨b, o + j * 8 + 6, none⟩ = some (.slice ans3 ns3.length cns3) ∧ V.cell? ⟨b, o + j * 8 + 7, none⟩ = some (.slice aks3 ks3.length cks3) ∧ V.cell? ⟨b', o' + j * 8, none⟩ = some (.int .i64 k4) ∧ V.cell? ⟨b', o' + j * 8 + 1, none⟩ = some (.int .i64 u4) ∧ V.cell? ⟨b', o' + j * 8 + 2, none⟩ = some (.string n4) ∧ V.cell? ⟨b', o' + j * 8 + 3, none⟩ = some (.int .i64 tk4) ∧ V.cell? ⟨b', o' + j * 8 + 4, none⟩ = some (.string tn4) ∧ V.cell? ⟨b', o' + j * 8 + 5, none⟩ = some (.slice atks4 tks4.length ctks4) ∧ V.cell? ⟨b', o' + j * 8 + 6, none⟩ = some (.slice ans4 ns4.length cns4) ∧ V.cell? ⟨b', o' + j * 8 + 7, none⟩ = some (.slice aks4 ks4.length cks4))
        (first | assumption | exact HSD.out | exact HS.out _ hbd | exact HS.out _ hbA | go_keep)
        (first
          | (go_at_call 128; (with_reducible refine (HBN1.out _ hbd).mono ?_); rintro e W2 ⟨vb, rfl, hsb, hb2⟩; have hsb' := hsb; obtain ⟨ab, cb, rfl, -⟩ := hsb'; have hbd' := hbd.trans (hb2.mono hbd.size); clear hbd; have hbd := hbd'; clear hbd'; have hal := (Below.refl W2.heap.size W2).alloc (Nat.le_refl _) (.cells #[.slice ax x.length cx, .slice ab bs1.length cb] 47); have hbA := hbd.trans (hal.mono hbd.size); have HLYE := hid ((HLYD.out.below hb2).below hal); have HCAT := hid (concat_L x bs1 _ (.slice ab bs1.length cb) W2.heap.size _ (two_newA W2 (.slice ax x.length cx) (.slice ab bs1.length cb) 47) (two_newB W2 (.slice ax x.length cx) (.slice ab bs1.length cb) 47) ((HLXD.out.below hb2).below hal) (hsb.below hal) HLE1.out); clear hsb hb2 hal HBN1)
          | (go_at_call 127; (with_reducible refine HCAT.out.mono ?_); rintro e W3 ⟨vw, rfl, how, hb3⟩; have HOW := hid (StrsL.of_own how); have HLYF := hid (HLYE.out.below hb3); clear hbd; have hbd := hbA.trans (hb3.mono hbA.size); clear how hb3 hbA HCAT HLYE)
          | (go_at_call 128; (with_reducible refine (HBN2.out _ hbd).mono ?_); rintro e W4 ⟨vb, rfl, hsb, hb2⟩; have hsb' := hsb; obtain ⟨ab2, cb2, rfl, -⟩ := hsb'; have hbd' := hbd.trans (hb2.mono hbd.size); clear hbd; have hbd := hbd'; clear hbd'; have hal := (Below.refl W4.heap.size W4).alloc (Nat.le_refl _) (.cells #[.slice ay y.length cy, .slice ab2 bs2.length cb2] 47); have hbA := hbd.trans (hal.mono hbd.size); have HOW2 := hid ((HOW.out.below hb2).below hal); have HCAT2 := hid (concat_L y bs2 _ (.slice ab2 bs2.length cb2) W4.heap.size _ (two_newA W4 (.slice ay y.length cy) (.slice ab2 bs2.length cb2) 47) (two_newB W4 (.slice ay y.length cy) (.slice ab2 bs2.length cb2) 47) ((HLYF.out.below hb2).below hal) (hsb.below hal) HLE2.out); clear hsb hb2 hal HBN2)
          | (go_at_call 127; (with_reducible refine HCAT2.out.mono ?_); rintro e W5 ⟨vw2, rfl, how, hb3⟩; have HOW4 := hid (StrsL.of_own how); have HOW3 := hid (HOW2.out.below hb3); clear hbd; have hbd := hbA.trans (hb3.mono hbA.size); clear how hb3 hbA HCAT2 HOW2)
          | (go_at_call 78; (with_reducible refine (HC.out _ _ _ hbd ?_ ?_).mono ?_); (exact HOW3.out); (exact HOW4.out); rintro e W6 ⟨rfl, hb6⟩; have hbd' := hbd.trans (hb6.mono hbd.size); clear hbd; have hbd := hbd'; clear hbd' hb6))
      have HBZ := hid hbd
      clear hbd s0 s1 s2 s3 s4 s5 s6 s7 s8 s9 s10 s11 s12 s13 s14 s15 s16 s17 s18 s19 s20 s21 s22 s23 s24 s25 s26 s27 s28 s29 s30 s31
      cases r
      case false =>
        have HE := hid (show Tm.alpha (Tm.mk k1 u1 n1 (Ty.mk tk1 tn1 tks1) ns1 ks1) (Tm.mk k2 u2 n2 (Ty.mk tk2 tn2 tks2) ns2 ks2) x y = false by rw [HAL.out]; exact Tm.alphas_no _ _ _ _ _ _ _ _ _ _ _ _ _ _ HT.out HT'.out HR3.out)
        go_wp2_with fail
        go_ret
        exact ⟨ret_bool HE.out.symm, HBW.out.trans (HBZ.out.mono HBW.out.size)⟩
      case true =>
        go_wp2_with fail
        go_roundw
        case rel =>
          refine ⟨j + 1, by omega, by go_num, hid fun i t u hi h1 h2 => ?_, HBZ⟩
          rcases Nat.lt_succ_iff_lt_or_eq.1 hi with hi | rfl
          · exact HJ.out i t u hi h1 h2
          · obtain rfl := Option.some.inj (h1.symm.trans HT.out)
            obtain rfl := Option.some.inj (h2.symm.trans HT'.out)
            exact HR3.out
        case measure => simp [intOf]; omega
theorem alphaSame_all : ∀ N, AliW N
  | 0 => fun  _ _ _ _ _ _ _ _ _ _ _ _ _ _ _ _ _ _ _ _ _ _ _ _ _ _ _ _ _ _ _ _ _ h => absurd h (by omega)
  | N + 1 => alphaSame_step N (alphaSame_all N)
end Go.Proofs.Ytgpefnlpbjnjbaa
