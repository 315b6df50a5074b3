/- Walks: the greatest level, in the program. -/
import Derived.Test.YtdcifcfkjhpokaaTmBoxP
import Derived.Test.YtdcifcfkjhpokaaTmFits
import Derived.Lib.QuietBelow
import Derived.BigQuiet
namespace Go.Proofs.Ytdcifcfkjhpokaa
open Go.ChangeShapes Go.WideShapes Go.ChangeAt Go.RowKit Go.BigFrame
open Go.Sort (grow)
set_option linter.unusedVariables false

theorem impl_truth (b : Bool) (w : World) : Calls Try.prog 99 #[.bool b] w fun e w' => e = .returned (.int .i64 (if b then 1 else 0)) ∧ w = w' := by
  cases b
  · go_enter Try.func99, Try.ntmps99
    go_wp2_with fail
    go_ret
    exact ⟨rfl, rfl⟩
  · go_enter Try.func99, Try.ntmps99
    go_wp2_with fail
    go_ret
    exact ⟨rfl, rfl⟩
def TmBoxIW (N : Nat) : Prop := ∀ (k1 : Int) (u1 : Int) (n1 : ByteArray) (tk1 : Int) (tn1 : ByteArray) (tks1 : List Ty) (ns1 : List ByteArray) (ks1 : List Tm) (atks1 : Option Addr) (ctks1 : Nat) (ans1 : Option Addr) (cns1 : Nat) (aks1 : Option Addr) (cks1 : Nat) (w : World), Tm.bulk (Tm.mk k1 u1 n1 (Ty.mk tk1 tn1 tks1) ns1 ks1) < N → Tm.bulk (Tm.mk k1 u1 n1 (Ty.mk tk1 tn1 tks1) ns1 ks1) ≤ 1048576 → RdS w (Tm.d (Tm.mk k1 u1 n1 (Ty.mk tk1 tn1 tks1) ns1 ks1)) [.int .i64 k1, .int .i64 u1, .string n1, .int .i64 tk1, .string tn1, .slice atks1 tks1.length ctks1, .slice ans1 ns1.length cns1, .slice aks1 ks1.length cks1] →
  Calls Try.prog 58 #[.agg #[.int .i64 k1, .int .i64 u1, .string n1, .int .i64 tk1, .string tn1, .slice atks1 tks1.length ctks1, .slice ans1 ns1.length cns1, .slice aks1 ks1.length cks1]] w fun e w' => e = .returned (.int .i64 (Tm.boxd (Tm.mk k1 u1 n1 (Ty.mk tk1 tn1 tks1) ns1 ks1) : Nat)) ∧ Below w.heap.size w w'
set_option maxRecDepth 100000 in
set_option maxHeartbeats 4000000 in
theorem boxDepth_step (N : Nat) (ih : TmBoxIW N) : TmBoxIW (N + 1) := by
  intro k1 u1 n1 tk1 tn1 tks1 ns1 ks1 atks1 ctks1 ans1 cns1 aks1 cks1 w hN hM hr
  have HBD := hid (show Tm.boxd (Tm.mk k1 u1 n1 (Ty.mk tk1 tn1 tks1) ns1 ks1) = Tm.boxds (isBox k1) ks1 by rw [Tm.boxd])
  have hbk : Tm.bulks ks1 ≤ Tm.bulk (Tm.mk k1 u1 n1 (Ty.mk tk1 tn1 tks1) ns1 ks1) := by simp only [Tm.bulk]; omega
  have HX0 := hid ((Boxes.nil w).alloc #[.int .i64 k1, .int .i64 u1, .string n1, .int .i64 tk1, .string tn1, .slice atks1 tks1.length ctks1, .slice ans1 ns1.length cns1, .slice aks1 ks1.length cks1] 36 (0, 0))
  have HB0 := hid ((Below.refl w.heap.size w).alloc (Nat.le_refl _) (.cells #[.int .i64 k1, .int .i64 u1, .string n1, .int .i64 tk1, .string tn1, .slice atks1 tks1.length ctks1, .slice ans1 ns1.length cns1, .slice aks1 ks1.length cks1] 36))
  obtain ⟨_, _, e, h2, h3, h4⟩ := hr.fTm.2.2.2.2.2.eTm
  simp only [Value.slice.injEq, true_and] at e
  obtain ⟨rfl, rfl⟩ := e
  have hbc := Tm.bulks_length ks1
  have hlk : ks1.length ≤ 1048576 := by omega
  have IH := hid ih
  have H4 := hid h4
  have HK := hid hbk
  have HM := hid hM
  have HN := hid hN
  clear ih h4 hbk hr hM hN hbc
  by_cases k6 : k1 = 6
  case pos =>
    have g6 : (k1 == 6) = true := by simp [k6]
    have HQ := hid (show isBox k1 = 1 by simp [isBox, k6])
    clear k6
    rw [HQ.out] at HBD
    go_enter Try.func58, Try.ntmps58
    go_wp2_with fail
    go_loopw [3, 9] (fun n i wr => ∃ (j : Nat), j ≤ ks1.length ∧ i = .int .i64 j ∧ n = .int .i64 (Tm.boxds 1 (ks1.take j) : Nat) ∧ Below (w.heap.size + 1) (w.alloc (.cells #[.int .i64 k1, .int .i64 u1, .string n1, .int .i64 tk1, .string tn1, .slice atks1 tks1.length ctks1, .slice ans1 ns1.length cns1, .slice aks1 ks1.length cks1] 36)) wr) (fun _ i _ => ks1.length - (intOf i).toNat)
    case atStart => exact ⟨0, by omega, rfl, by simp [Tm.boxds], Below.refl _ _⟩
    case round =>
      obtain ⟨j, hj, rfl, rfl, hb0⟩ := hrel
      have hb : Below w.heap.size w wr := HB0.out.trans (hb0.mono (by omega))
      by_cases hlt : j < ks1.length
      case pos =>
        obtain ⟨b, o, rfl, hbl, hall⟩ := H4.out (by omega)
        obtain ⟨t, ht⟩ : ∃ t, ks1[j]? = some t := ⟨_, List.getElem?_eq_getElem hlt⟩
        obtain ⟨k3, u3, n3, ⟨tk3, tn3, tks3⟩, ns3, ks3⟩ := t
        obtain ⟨atks3, ctks3, ans3, cns3, aks3, cks3, q0, q1, q2, q3, q4, q5, q6, q7, hrk⟩ := hall j k3 u3 n3 tk3 tn3 tks3 ns3 ks3 ht
        clear hall H4
        have d0 := (hb.cell (p := ⟨b, o + j * 8, none⟩) hbl).trans q0
        have d1 := (hb.cell (p := ⟨b, o + j * 8 + 1, none⟩) hbl).trans q1
        have d2 := (hb.cell (p := ⟨b, o + j * 8 + 2, none⟩) hbl).trans q2
        have d3 := (hb.cell (p := ⟨b, o + j * 8 + 3, none⟩) hbl).trans q3
        have d4 := (hb.cell (p := ⟨b, o + j * 8 + 4, none⟩) hbl).trans q4
        have d5 := (hb.cell (p := ⟨b, o + j * 8 + 5, none⟩) hbl).trans q5
        have d6 := (hb.cell (p := ⟨b, o + j * 8 + 6, none⟩) hbl).trans q6
        have d7 := (hb.cell (p := ⟨b, o + j * 8 + 7, none⟩) hbl).trans q7
        have HY := hid ((HX0.out.below (by simpa using hb0)).alloc #[.int .i64 k3, .int .i64 u3, .string n3, .int .i64 tk3, .string tn3, .slice atks3 tks3.length ctks3, .slice ans3 ns3.length cns3, .slice aks3 ks3.length cks3] 36 (0, 0))
        have e0 := cell_regrown (HY.out.at 1 0 rfl rfl)
        have f0 := cell_regrown (HY.out.at 0 0 rfl rfl)
        have f1 := cell_regrown (HY.out.at 0 1 rfl rfl)
        have f2 := cell_regrown (HY.out.at 0 2 rfl rfl)
        have f3 := cell_regrown (HY.out.at 0 3 rfl rfl)
        have f4 := cell_regrown (HY.out.at 0 4 rfl rfl)
        have f5 := cell_regrown (HY.out.at 0 5 rfl rfl)
        have f6 := cell_regrown (HY.out.at 0 6 rfl rfl)
        have f7 := cell_regrown (HY.out.at 0 7 rfl rfl)
        have hbk1 : Below wr.heap.size wr (wr.alloc (.cells #[.int .i64 k3, .int .i64 u3, .string n3, .int .i64 tk3, .string tn3, .slice atks3 tks3.length ctks3, .slice ans3 ns3.length cns3, .slice aks3 ks3.length cks3] 36)) := (Below.refl _ _).alloc (Nat.le_refl _) _
        have hbg := Tm.bulk_get ks1 j _ ht
        have hxg := Tm.boxds_get 1 ks1 j _ ht
        have HBT := hid (Tm.boxds_take 1 ks1 j _ ht)
        have hcl := Tm.boxds_le 1 (ks1.take j) (by omega)
        have hcl2 := Tm.cnts_take_le ks1 j
        have hcl3 := Tm.cnts_le ks1
        have hxl : Tm.boxds 1 (ks1.take j) ≤ 1048576 := by have := HK.out; have := HM.out; omega
        have hcl4 := Tm.boxd_le (Tm.mk k3 u3 n3 (Ty.mk tk3 tn3 tks3) ns3 ks3)
        have hcl5 := Tm.cnt_le (Tm.mk k3 u3 n3 (Ty.mk tk3 tn3 tks3) ns3 ks3)
        have hxt : Tm.boxd (Tm.mk k3 u3 n3 (Ty.mk tk3 tn3 tks3) ns3 ks3) ≤ 1048576 := by have := HK.out; have := HM.out; omega
        have HCT := hid (fun d' os => Calls.regrown_of (calls_below (impl_truth true (grow (redrawn (wr.alloc (.cells #[.int .i64 k3, .int .i64 u3, .string n3, .int .i64 tk3, .string tn3, .slice atks3 tks3.length ctks3, .slice ans3 ns3.length cns3, .slice aks3 ks3.length cks3] 36)) d') os))))
        have HC := hid (fun d' os => Calls.regrown_of (IH.out k3 u3 n3 tk3 tn3 tks3 ns3 ks3 atks3 ctks3 ans3 cns3 aks3 cks3 (grow (redrawn (wr.alloc (.cells #[.int .i64 k3, .int .i64 u3, .string n3, .int .i64 tk3, .string tn3, .slice atks3 tks3.length ctks3, .slice ans3 ns3.length cns3, .slice aks3 ks3.length cks3] 36)) d') os) (by have := HK.out; have := HN.out; omega) (by have := HK.out; have := HM.out; omega) (((hrk.below hb).below hbk1).below (below_regrown _ d' os))))
        clear ht hrk q0 q1 q2 q3 q4 q5 q6 q7 hbg hxg hcl hcl2 hcl3 hcl4 hcl5 HY
        generalize hbz : Tm.boxd (Tm.mk k3 u3 n3 (Ty.mk tk3 tn3 tks3) ns3 ks3) = bd3 at HC HBT hxt
        have HBZ := hid hbz
        generalize hbdj : Tm.boxds 1 (ks1.take j) = bdj at HBT hxl ⊢
        have HBDJ := hid hbdj
        clear hbz hbdj
        go_wp2_with fail
        refine wp_region_quiet_below (by kernel_rfl) (by kernel_rfl) ?_
        repeat (go_big_quiet_step (first | exact HCT.out _ _ | exact HC.out _ _))
        refine wpQuiet_nil ?_
        intro _ hw'
        obtain ⟨⟨dq, osq⟩, hw''⟩ := hw'
        subst hw''
        have hbx := (hb0.trans ((hbk1.trans ((below_regrown _ dq osq).mono (by simp))).mono (by have := hb0.size; simpa using this)))
        have hbw := HB0.out.trans (hbx.mono (by omega))
        clear HC HCT d0 d1 d2 d3 d4 d5 d6 d7 e0 f0 f1 f2 f3 f4 f5 f6 f7
        go_wp2_with fail
        go_roundw
        case rel => exact ⟨j + 1, by omega, by go_num, congrArg (Value.int .i64) (by have := HBT.out; omega), hbx⟩
        case measure => simp [intOf]; omega
      case neg =>
        obtain rfl : j = ks1.length := by omega
        rw [List.take_length]
        go_wp2_with fail
        go_ret
        exact ⟨ret_int (by rw [HBD.out]), hb⟩
  case neg =>
    have g6 : (k1 == 6) = false := by simp [k6]
    have HQ := hid (show isBox k1 = 0 by simp [isBox, k6])
    clear k6
    rw [HQ.out] at HBD
    go_enter Try.func58, Try.ntmps58
    go_wp2_with fail
    go_loopw [3, 9] (fun n i wr => ∃ (j : Nat), j ≤ ks1.length ∧ i = .int .i64 j ∧ n = .int .i64 (Tm.boxds 0 (ks1.take j) : Nat) ∧ Below (w.heap.size + 1) (w.alloc (.cells #[.int .i64 k1, .int .i64 u1, .string n1, .int .i64 tk1, .string tn1, .slice atks1 tks1.length ctks1, .slice ans1 ns1.length cns1, .slice aks1 ks1.length cks1] 36)) wr) (fun _ i _ => ks1.length - (intOf i).toNat)
    case atStart => exact ⟨0, by omega, rfl, by simp [Tm.boxds], Below.refl _ _⟩
    case round =>
      obtain ⟨j, hj, rfl, rfl, hb0⟩ := hrel
      have hb : Below w.heap.size w wr := HB0.out.trans (hb0.mono (by omega))
      by_cases hlt : j < ks1.length
      case pos =>
        obtain ⟨b, o, rfl, hbl, hall⟩ := H4.out (by omega)
        obtain ⟨t, ht⟩ : ∃ t, ks1[j]? = some t := ⟨_, List.getElem?_eq_getElem hlt⟩
        obtain ⟨k3, u3, n3, ⟨tk3, tn3, tks3⟩, ns3, ks3⟩ := t
        obtain ⟨atks3, ctks3, ans3, cns3, aks3, cks3, q0, q1, q2, q3, q4, q5, q6, q7, hrk⟩ := hall j k3 u3 n3 tk3 tn3 tks3 ns3 ks3 ht
        clear hall H4
        have d0 := (hb.cell (p := ⟨b, o + j * 8, none⟩) hbl).trans q0
        have d1 := (hb.cell (p := ⟨b, o + j * 8 + 1, none⟩) hbl).trans q1
        have d2 := (hb.cell (p := ⟨b, o + j * 8 + 2, none⟩) hbl).trans q2
        have d3 := (hb.cell (p := ⟨b, o + j * 8 + 3, none⟩) hbl).trans q3
        have d4 := (hb.cell (p := ⟨b, o + j * 8 + 4, none⟩) hbl).trans q4
        have d5 := (hb.cell (p := ⟨b, o + j * 8 + 5, none⟩) hbl).trans q5
        have d6 := (hb.cell (p := ⟨b, o + j * 8 + 6, none⟩) hbl).trans q6
        have d7 := (hb.cell (p := ⟨b, o + j * 8 + 7, none⟩) hbl).trans q7
        have HY := hid ((HX0.out.below (by simpa using hb0)).alloc #[.int .i64 k3, .int .i64 u3, .string n3, .int .i64 tk3, .string tn3, .slice atks3 tks3.length ctks3, .slice ans3 ns3.length cns3, .slice aks3 ks3.length cks3] 36 (0, 0))
        have e0 := cell_regrown (HY.out.at 1 0 rfl rfl)
        have f0 := cell_regrown (HY.out.at 0 0 rfl rfl)
        have f1 := cell_regrown (HY.out.at 0 1 rfl rfl)
        have f2 := cell_regrown (HY.out.at 0 2 rfl rfl)
        have f3 := cell_regrown (HY.out.at 0 3 rfl rfl)
        have f4 := cell_regrown (HY.out.at 0 4 rfl rfl)
        have f5 := cell_regrown (HY.out.at 0 5 rfl rfl)
        have f6 := cell_regrown (HY.out.at 0 6 rfl rfl)
        have f7 := cell_regrown (HY.out.at 0 7 rfl rfl)
        have hbk1 : Below wr.heap.size wr (wr.alloc (.cells #[.int .i64 k3, .int .i64 u3, .string n3, .int .i64 tk3, .string tn3, .slice atks3 tks3.length ctks3, .slice ans3 ns3.length cns3, .slice aks3 ks3.length cks3] 36)) := (Below.refl _ _).alloc (Nat.le_refl _) _
        have hbg := Tm.bulk_get ks1 j _ ht
        have hxg := Tm.boxds_get 0 ks1 j _ ht
        have HBT := hid (Tm.boxds_take 0 ks1 j _ ht)
        have hcl := Tm.boxds_le 0 (ks1.take j) (by omega)
        have hcl2 := Tm.cnts_take_le ks1 j
        have hcl3 := Tm.cnts_le ks1
        have hxl : Tm.boxds 0 (ks1.take j) ≤ 1048576 := by have := HK.out; have := HM.out; omega
        have hcl4 := Tm.boxd_le (Tm.mk k3 u3 n3 (Ty.mk tk3 tn3 tks3) ns3 ks3)
        have hcl5 := Tm.cnt_le (Tm.mk k3 u3 n3 (Ty.mk tk3 tn3 tks3) ns3 ks3)
        have hxt : Tm.boxd (Tm.mk k3 u3 n3 (Ty.mk tk3 tn3 tks3) ns3 ks3) ≤ 1048576 := by have := HK.out; have := HM.out; omega
        have HCT := hid (fun d' os => Calls.regrown_of (calls_below (impl_truth false (grow (redrawn (wr.alloc (.cells #[.int .i64 k3, .int .i64 u3, .string n3, .int .i64 tk3, .string tn3, .slice atks3 tks3.length ctks3, .slice ans3 ns3.length cns3, .slice aks3 ks3.length cks3] 36)) d') os))))
        have HC := hid (fun d' os => Calls.regrown_of (IH.out k3 u3 n3 tk3 tn3 tks3 ns3 ks3 atks3 ctks3 ans3 cns3 aks3 cks3 (grow (redrawn (wr.alloc (.cells #[.int .i64 k3, .int .i64 u3, .string n3, .int .i64 tk3, .string tn3, .slice atks3 tks3.length ctks3, .slice ans3 ns3.length cns3, .slice aks3 ks3.length cks3] 36)) d') os) (by have := HK.out; have := HN.out; omega) (by have := HK.out; have := HM.out; omega) (((hrk.below hb).below hbk1).below (below_regrown _ d' os))))
        clear ht hrk q0 q1 q2 q3 q4 q5 q6 q7 hbg hxg hcl hcl2 hcl3 hcl4 hcl5 HY
        generalize hbz : Tm.boxd (Tm.mk k3 u3 n3 (Ty.mk tk3 tn3 tks3) ns3 ks3) = bd3 at HC HBT hxt
        have HBZ := hid hbz
        generalize hbdj : Tm.boxds 0 (ks1.take j) = bdj at HBT hxl ⊢
        have HBDJ := hid hbdj
        clear hbz hbdj
        go_wp2_with fail
        refine wp_region_quiet_below (by kernel_rfl) (by kernel_rfl) ?_
        repeat (go_big_quiet_step (first | exact HCT.out _ _ | exact HC.out _ _))
        refine wpQuiet_nil ?_
        intro _ hw'
        obtain ⟨⟨dq, osq⟩, hw''⟩ := hw'
        subst hw''
        have hbx := (hb0.trans ((hbk1.trans ((below_regrown _ dq osq).mono (by simp))).mono (by have := hb0.size; simpa using this)))
        have hbw := HB0.out.trans (hbx.mono (by omega))
        clear HC HCT d0 d1 d2 d3 d4 d5 d6 d7 e0 f0 f1 f2 f3 f4 f5 f6 f7
        go_wp2_with fail
        go_roundw
        case rel => exact ⟨j + 1, by omega, by go_num, congrArg (Value.int .i64) (by have := HBT.out; omega), hbx⟩
        case measure => simp [intOf]; omega
      case neg =>
        obtain rfl : j = ks1.length := by omega
        rw [List.take_length]
        go_wp2_with fail
        go_ret
        exact ⟨ret_int (by rw [HBD.out]), hb⟩
theorem boxDepth_all : ∀ N, TmBoxIW N
  | 0 => fun _ _ _ _ _ _ _ _ _ _ _ _ _ _ _  h => absurd h (by omega)
  | N + 1 => boxDepth_step N (boxDepth_all N)
theorem impl_BoxDepth (k1 : Int) (u1 : Int) (n1 : ByteArray) (tk1 : Int) (tn1 : ByteArray) (tks1 : List Ty) (ns1 : List ByteArray) (ks1 : List Tm) (atks1 : Option Addr) (ctks1 : Nat) (ans1 : Option Addr) (cns1 : Nat) (aks1 : Option Addr) (cks1 : Nat) (w : World) (hM : Tm.bulk (Tm.mk k1 u1 n1 (Ty.mk tk1 tn1 tks1) ns1 ks1) ≤ 1048576) (hr : RdS w (Tm.d (Tm.mk k1 u1 n1 (Ty.mk tk1 tn1 tks1) ns1 ks1)) [.int .i64 k1, .int .i64 u1, .string n1, .int .i64 tk1, .string tn1, .slice atks1 tks1.length ctks1, .slice ans1 ns1.length cns1, .slice aks1 ks1.length cks1]) :
    Calls Try.prog 21 #[.agg #[.int .i64 k1, .int .i64 u1, .string n1, .int .i64 tk1, .string tn1, .slice atks1 tks1.length ctks1, .slice ans1 ns1.length cns1, .slice aks1 ks1.length cks1]] w fun e w' => e = .returned (.int .i64 (boxDep (Tm.mk k1 u1 n1 (Ty.mk tk1 tn1 tks1) ns1 ks1))) ∧ Below w.heap.size w w' := by
  have hB := (Below.refl w.heap.size w).alloc (Nat.le_refl _) (.cells #[.int .i64 k1, .int .i64 u1, .string n1, .int .i64 tk1, .string tn1, .slice atks1 tks1.length ctks1, .slice ans1 ns1.length cns1, .slice aks1 ks1.length cks1] 36)
  have hc := impl_ValidTerm k1 u1 n1 tk1 tn1 tks1 ns1 ks1 atks1 ctks1 ans1 cns1 aks1 cks1 (w.alloc (.cells #[.int .i64 k1, .int .i64 u1, .string n1, .int .i64 tk1, .string tn1, .slice atks1 tks1.length ctks1, .slice ans1 ns1.length cns1, .slice aks1 ks1.length cks1] 36)) hM (hr.below hB)
  have hs := fun W (hW : Below w.heap.size w W) => boxDepth_all (Tm.bulk (Tm.mk k1 u1 n1 (Ty.mk tk1 tn1 tks1) ns1 ks1) + 1) k1 u1 n1 tk1 tn1 tks1 ns1 ks1 atks1 ctks1 ans1 cns1 aks1 cks1 W (by omega) hM (hr.below hW)
  have HX0 := hid ((Boxes.nil w).alloc #[.int .i64 k1, .int .i64 u1, .string n1, .int .i64 tk1, .string tn1, .slice atks1 tks1.length ctks1, .slice ans1 ns1.length cns1, .slice aks1 ks1.length cks1] 36 (0, 0))
  have HB0 := hid hB
  by_cases hok : Tm.ok (Tm.mk k1 u1 n1 (Ty.mk tk1 tn1 tks1) ns1 ks1) = true
  case neg =>
    replace hok := (Bool.not_eq_true _).mp hok
    have HF := hid (boxDep_no hok)
    rw [hok] at hc
    have HC := hid hc
    clear hc hok hM hr hB hs
    go_enter Try.func21, Try.ntmps21
    go_wp2_with fail
    refine HC.out.mono ?_
    rintro e w1 ⟨rfl, hb⟩
    have HB1 := hid (HB0.out.trans (hb.mono HB0.out.size))
    clear hb
    go_wp2_with fail
    go_ret
    exact ⟨ret_int HF.out.symm, HB1.out⟩
  case pos =>
    have HF := hid (boxDep_yes hok)
    rw [hok] at hc
    have HC := hid hc
    have HS := hid hs
    clear hc hok hM hr hB hs
    go_enter Try.func21, Try.ntmps21
    go_wp2_with fail
    refine HC.out.mono ?_
    rintro e w1 ⟨rfl, hb⟩
    have HB1 := hid (HB0.out.trans (hb.mono HB0.out.size))
    have HX1 := hid (HX0.out.below hb)
    clear hb
    have y0 := HX1.out.at 0 0 rfl rfl
    have y1 := HX1.out.at 0 1 rfl rfl
    have y2 := HX1.out.at 0 2 rfl rfl
    have y3 := HX1.out.at 0 3 rfl rfl
    have y4 := HX1.out.at 0 4 rfl rfl
    have y5 := HX1.out.at 0 5 rfl rfl
    have y6 := HX1.out.at 0 6 rfl rfl
    have y7 := HX1.out.at 0 7 rfl rfl
    go_wp2_with fail
    refine (HS.out _ HB1.out).mono ?_
    rintro e w2 ⟨rfl, hb⟩
    have HB2 := hid (HB1.out.trans (hb.mono HB1.out.size))
    clear hb y0 y1 y2 y3 y4 y5 y6 y7
    go_wp2_with fail
    go_ret
    exact ⟨ret_int HF.out.symm, HB2.out⟩
end Go.Proofs.Ytdcifcfkjhpokaa
