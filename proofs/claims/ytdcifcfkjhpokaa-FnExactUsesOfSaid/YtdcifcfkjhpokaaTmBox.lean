/- Walks: the greatest level, in the reference. -/
import Derived.Test.YtdcifcfkjhpokaaTmBoxP
import Derived.Test.YtdcifcfkjhpokaaTmValid
namespace Go.Proofs.Ytdcifcfkjhpokaa
open Go.ChangeShapes Go.WideShapes Go.ChangeAt Go.RowKit Go.BigFrame
open Go.Sort (grow)
set_option linter.unusedVariables false

theorem spec_l00Max (a b : Int) (w : World) : Calls Try.prog 98 #[.int .i64 a, .int .i64 b] w fun e w' => e = .returned (.int .i64 (max a b)) ∧ w = w' := by
  by_cases h : b < a
  · have g : decide (b < a) = true := decide_eq_true h
    have HF := hid (show max a b = a by omega)
    clear h
    go_enter Try.func98, Try.ntmps98
    go_wp2_with fail
    go_ret
    exact ⟨ret_int HF.out.symm, rfl⟩
  · have g : decide (b < a) = false := decide_eq_false h
    have HF := hid (show max a b = b by omega)
    clear h
    go_enter Try.func98, Try.ntmps98
    go_wp2_with fail
    go_ret
    exact ⟨ret_int HF.out.symm, rfl⟩
def TmBoxW (N : Nat) : Prop := ∀ (k1 : Int) (u1 : Int) (n1 : ByteArray) (tk1 : Int) (tn1 : ByteArray) (tks1 : List Ty) (ns1 : List ByteArray) (ks1 : List Tm) (atks1 : Option Addr) (ctks1 : Nat) (ans1 : Option Addr) (cns1 : Nat) (aks1 : Option Addr) (cks1 : Nat) (b1 o1 : Nat) (L : Int) (w : World), Tm.bulk (Tm.mk k1 u1 n1 (Ty.mk tk1 tn1 tks1) ns1 ks1) < N → Tm.bulk (Tm.mk k1 u1 n1 (Ty.mk tk1 tn1 tks1) ns1 ks1) ≤ 1048576 → 0 ≤ L → L + Tm.boxd (Tm.mk k1 u1 n1 (Ty.mk tk1 tn1 tks1) ns1 ks1) ≤ 4194304 → w.cell? ⟨b1, o1, none⟩ = some (.int .i64 k1) → w.cell? ⟨b1, o1 + 7, none⟩ = some (.slice aks1 ks1.length cks1) → RdS w (Tm.d (Tm.mk k1 u1 n1 (Ty.mk tk1 tn1 tks1) ns1 ks1)) [.int .i64 k1, .int .i64 u1, .string n1, .int .i64 tk1, .string tn1, .slice atks1 tks1.length ctks1, .slice ans1 ns1.length cns1, .slice aks1 ks1.length cks1] →
  Calls Try.prog 57 #[.pointer (some ⟨b1, o1, none⟩), .int .i64 L] w fun e w' => e = .returned (.int .i64 (L + Tm.boxd (Tm.mk k1 u1 n1 (Ty.mk tk1 tn1 tks1) ns1 ks1) : Int)) ∧ w = w'
set_option maxRecDepth 100000 in
set_option maxHeartbeats 4000000 in
theorem l05Depth_step (N : Nat) (ih : TmBoxW N) : TmBoxW (N + 1) := by
  intro k1 u1 n1 tk1 tn1 tks1 ns1 ks1 atks1 ctks1 ans1 cns1 aks1 cks1 b1 o1 L w hN hM hL0 hL1 x0 x7 hr
  have HBD := hid (show Tm.boxd (Tm.mk k1 u1 n1 (Ty.mk tk1 tn1 tks1) ns1 ks1) = Tm.boxds (isBox k1) ks1 by rw [Tm.boxd])
  have hbk : Tm.bulks ks1 ≤ Tm.bulk (Tm.mk k1 u1 n1 (Ty.mk tk1 tn1 tks1) ns1 ks1) := by simp only [Tm.bulk]; omega
  have hfk := hr.fTm.2.2.2.2.2
  obtain ⟨_, _, e, h2, h3, h4⟩ := hfk.eTm
  simp only [Value.slice.injEq, true_and] at e
  obtain ⟨rfl, rfl⟩ := e
  have hbc := Tm.bulks_length ks1
  have hlk : ks1.length ≤ 1048576 := by omega
  have IH := hid ih
  have H4 := hid h4
  have HK := hid hbk
  have HM := hid hM
  have HN := hid hN
  have HL := hid (show L + (Tm.boxds (isBox k1) ks1 : Nat) ≤ 4194304 by rw [HBD.out] at hL1; exact hL1)
  clear ih h4 hbk hfk hr hM hN hL1
  have hLa : L ≤ 4194304 := by have := HL.out; omega
  by_cases k6 : k1 = 6
  case pos =>
    have g6 : (k1 == 6) = true := by simp [k6]
    have HQ := hid (show isBox k1 = 1 by simp [isBox, k6])
    clear k6
    rw [HQ.out] at HBD HL
    go_enter Try.func57, Try.ntmps57
    go_wp2_with fail
    go_loopw [5, 6] (fun n i wr => ∃ (j : Nat) (x : Int), j ≤ ks1.length ∧ i = .int .i64 j ∧ Hid (x = L + (Tm.boxds 1 (ks1.take j) : Nat)) ∧ n = .int .i64 x ∧ w = wr) (fun _ i _ => ks1.length - (intOf i).toNat)
    case atStart => exact ⟨0, L, by omega, rfl, by simp [Tm.boxds, Hid], rfl, rfl⟩
    case round =>
      obtain ⟨j, x, hj, rfl, HX, rfl, rfl⟩ := hrel
      by_cases hlt : j < ks1.length
      case pos =>
        obtain ⟨b, o, rfl, hbl, hall⟩ := H4.out (by omega)
        obtain ⟨t, ht⟩ : ∃ t, ks1[j]? = some t := ⟨_, List.getElem?_eq_getElem hlt⟩
        obtain ⟨k3, u3, n3, ⟨tk3, tn3, tks3⟩, ns3, ks3⟩ := t
        obtain ⟨atks3, ctks3, ans3, cns3, aks3, cks3, q0, q1, q2, q3, q4, q5, q6, q7, hrk⟩ := hall j k3 u3 n3 tk3 tn3 tks3 ns3 ks3 ht
        clear hall H4
        have hbg := Tm.bulk_get ks1 j _ ht
        have hxg := Tm.boxds_get 1 ks1 j _ ht
        have HBT := hid (Tm.boxds_take 1 ks1 j _ ht)
        have HC := hid (IH.out k3 u3 n3 tk3 tn3 tks3 ns3 ks3 atks3 ctks3 ans3 cns3 aks3 cks3 b (o + j * 8) (L + 1) w (by have := HK.out; have := HN.out; omega) (by have := HK.out; have := HM.out; omega) (by omega) (by have := HL.out; omega) q0 q7 hrk)
        have HMX := hid (spec_l00Max x ((L + 1) + (Tm.boxd (Tm.mk k3 u3 n3 (Ty.mk tk3 tn3 tks3) ns3 ks3) : Nat)) w)
        clear ht hrk q0 q1 q2 q3 q4 q5 q6 q7 hbg hxg
        go_wp2_with fail
        refine HC.out.mono ?_
        rintro e w2 ⟨rfl, rfl⟩
        go_wp2_with fail
        refine HMX.out.mono ?_
        rintro e w2 ⟨rfl, rfl⟩
        go_wp2_with fail
        go_roundw
        case rel => exact ⟨j + 1, _, by omega, by go_num, hid (by have := HX.out; have := HBT.out; omega), rfl, by first | rfl | trivial⟩
        case measure => simp [intOf]; omega
      case neg =>
        obtain rfl : j = ks1.length := by omega
        have HX2 := HX.out
        rw [List.take_length] at HX2
        have HXX := hid HX2
        clear HX HX2
        go_wp2_with fail
        go_ret
        exact ⟨ret_int (by rw [HXX.out, HBD.out]), rfl⟩
  case neg =>
    have g6 : (k1 == 6) = false := by simp [k6]
    have HQ := hid (show isBox k1 = 0 by simp [isBox, k6])
    clear k6
    rw [HQ.out] at HBD HL
    go_enter Try.func57, Try.ntmps57
    go_wp2_with fail
    go_loopw [5, 6] (fun n i wr => ∃ (j : Nat) (x : Int), j ≤ ks1.length ∧ i = .int .i64 j ∧ Hid (x = L + (Tm.boxds 0 (ks1.take j) : Nat)) ∧ n = .int .i64 x ∧ w = wr) (fun _ i _ => ks1.length - (intOf i).toNat)
    case atStart => exact ⟨0, L, by omega, rfl, by simp [Tm.boxds, Hid], rfl, rfl⟩
    case round =>
      obtain ⟨j, x, hj, rfl, HX, rfl, rfl⟩ := hrel
      by_cases hlt : j < ks1.length
      case pos =>
        obtain ⟨b, o, rfl, hbl, hall⟩ := H4.out (by omega)
        obtain ⟨t, ht⟩ : ∃ t, ks1[j]? = some t := ⟨_, List.getElem?_eq_getElem hlt⟩
        obtain ⟨k3, u3, n3, ⟨tk3, tn3, tks3⟩, ns3, ks3⟩ := t
        obtain ⟨atks3, ctks3, ans3, cns3, aks3, cks3, q0, q1, q2, q3, q4, q5, q6, q7, hrk⟩ := hall j k3 u3 n3 tk3 tn3 tks3 ns3 ks3 ht
        clear hall H4
        have hbg := Tm.bulk_get ks1 j _ ht
        have hxg := Tm.boxds_get 0 ks1 j _ ht
        have HBT := hid (Tm.boxds_take 0 ks1 j _ ht)
        have HC := hid (IH.out k3 u3 n3 tk3 tn3 tks3 ns3 ks3 atks3 ctks3 ans3 cns3 aks3 cks3 b (o + j * 8) L w (by have := HK.out; have := HN.out; omega) (by have := HK.out; have := HM.out; omega) (by omega) (by have := HL.out; omega) q0 q7 hrk)
        have HMX := hid (spec_l00Max x (L + (Tm.boxd (Tm.mk k3 u3 n3 (Ty.mk tk3 tn3 tks3) ns3 ks3) : Nat)) w)
        clear ht hrk q0 q1 q2 q3 q4 q5 q6 q7 hbg hxg
        go_wp2_with fail
        refine HC.out.mono ?_
        rintro e w2 ⟨rfl, rfl⟩
        go_wp2_with fail
        refine HMX.out.mono ?_
        rintro e w2 ⟨rfl, rfl⟩
        go_wp2_with fail
        go_roundw
        case rel => exact ⟨j + 1, _, by omega, by go_num, hid (by have := HX.out; have := HBT.out; omega), rfl, by first | rfl | trivial⟩
        case measure => simp [intOf]; omega
      case neg =>
        obtain rfl : j = ks1.length := by omega
        have HX2 := HX.out
        rw [List.take_length] at HX2
        have HXX := hid HX2
        clear HX HX2
        go_wp2_with fail
        go_ret
        exact ⟨ret_int (by rw [HXX.out, HBD.out]), rfl⟩
theorem l05Depth_all : ∀ N, TmBoxW N
  | 0 => fun _ _ _ _ _ _ _ _ _ _ _ _ _ _ _ _ _ _  h => absurd h (by omega)
  | N + 1 => l05Depth_step N (l05Depth_all N)
theorem spec_BoxDepth (k1 : Int) (u1 : Int) (n1 : ByteArray) (tk1 : Int) (tn1 : ByteArray) (tks1 : List Ty) (ns1 : List ByteArray) (ks1 : List Tm) (atks1 : Option Addr) (ctks1 : Nat) (ans1 : Option Addr) (cns1 : Nat) (aks1 : Option Addr) (cks1 : Nat) (w : World) (hM : Tm.bulk (Tm.mk k1 u1 n1 (Ty.mk tk1 tn1 tks1) ns1 ks1) ≤ 1048576) (hr : RdS w (Tm.d (Tm.mk k1 u1 n1 (Ty.mk tk1 tn1 tks1) ns1 ks1)) [.int .i64 k1, .int .i64 u1, .string n1, .int .i64 tk1, .string tn1, .slice atks1 tks1.length ctks1, .slice ans1 ns1.length cns1, .slice aks1 ks1.length cks1]) :
    Calls Try.prog 20 #[.agg #[.int .i64 k1, .int .i64 u1, .string n1, .int .i64 tk1, .string tn1, .slice atks1 tks1.length ctks1, .slice ans1 ns1.length cns1, .slice aks1 ks1.length cks1]] w fun e w' => e = .returned (.int .i64 (boxDep (Tm.mk k1 u1 n1 (Ty.mk tk1 tn1 tks1) ns1 ks1))) ∧ Below w.heap.size w w' := by
  have hB := (Below.refl w.heap.size w).alloc (Nat.le_refl _) (.cells #[.int .i64 k1, .int .i64 u1, .string n1, .int .i64 tk1, .string tn1, .slice atks1 tks1.length ctks1, .slice ans1 ns1.length cns1, .slice aks1 ks1.length cks1] 36)
  have HX0 := hid ((Boxes.nil w).alloc #[.int .i64 k1, .int .i64 u1, .string n1, .int .i64 tk1, .string tn1, .slice atks1 tks1.length ctks1, .slice ans1 ns1.length cns1, .slice aks1 ks1.length cks1] 36 (0, 0))
  have hrb := hr.below hB
  have hc := spec_l03Ok k1 u1 n1 tk1 tn1 tks1 ns1 ks1 atks1 ctks1 ans1 cns1 aks1 cks1 w.heap.size 0 (w.alloc (.cells #[.int .i64 k1, .int .i64 u1, .string n1, .int .i64 tk1, .string tn1, .slice atks1 tks1.length ctks1, .slice ans1 ns1.length cns1, .slice aks1 ks1.length cks1] 36)) hM (HX0.out.at 0 0 rfl rfl) (HX0.out.at 0 1 rfl rfl) (HX0.out.at 0 2 rfl rfl) (HX0.out.at 0 3 rfl rfl) (HX0.out.at 0 4 rfl rfl) (HX0.out.at 0 5 rfl rfl) (HX0.out.at 0 6 rfl rfl) (HX0.out.at 0 7 rfl rfl) hrb
  have hct := Tm.boxd_le (Tm.mk k1 u1 n1 (Ty.mk tk1 tn1 tks1) ns1 ks1)
  have hcb := Tm.cnt_le (Tm.mk k1 u1 n1 (Ty.mk tk1 tn1 tks1) ns1 ks1)
  have hs := fun W (hW : Below (w.alloc (.cells #[.int .i64 k1, .int .i64 u1, .string n1, .int .i64 tk1, .string tn1, .slice atks1 tks1.length ctks1, .slice ans1 ns1.length cns1, .slice aks1 ks1.length cks1] 36)).heap.size (w.alloc (.cells #[.int .i64 k1, .int .i64 u1, .string n1, .int .i64 tk1, .string tn1, .slice atks1 tks1.length ctks1, .slice ans1 ns1.length cns1, .slice aks1 ks1.length cks1] 36)) W) => l05Depth_all (Tm.bulk (Tm.mk k1 u1 n1 (Ty.mk tk1 tn1 tks1) ns1 ks1) + 1) k1 u1 n1 tk1 tn1 tks1 ns1 ks1 atks1 ctks1 ans1 cns1 aks1 cks1 w.heap.size 0 0 W (by omega) hM (by omega) (by omega) ((HX0.out.below hW).at 0 0 rfl rfl) ((HX0.out.below hW).at 0 7 rfl rfl) (hrb.below hW)
  have HB := hid hB
  by_cases hok : Tm.ok (Tm.mk k1 u1 n1 (Ty.mk tk1 tn1 tks1) ns1 ks1) = true
  case neg =>
    have HF := hid (boxDep_no ((Bool.not_eq_true _).mp hok))
    rw [(Bool.not_eq_true _).mp hok] at hc
    have HC := hid hc
    clear hc hok hM hr hrb hB hs hct hcb HX0
    go_enter Try.func20, Try.ntmps20
    go_wp2_with fail
    refine HC.out.mono ?_
    rintro e w1 ⟨rfl, hb⟩
    have HB1 := hid (HB.out.trans (hb.mono HB.out.size))
    clear hb
    go_wp2_with fail
    go_ret
    exact ⟨ret_int HF.out.symm, HB1.out⟩
  case pos =>
    have HF := hid (boxDep_yes hok)
    rw [hok] at hc
    have HC := hid hc
    have HS := hid hs
    clear hc hok hM hr hrb hB hs hct hcb HX0
    go_enter Try.func20, Try.ntmps20
    go_wp2_with fail
    refine HC.out.mono ?_
    rintro e w1 ⟨rfl, hb⟩
    have HB1 := hid (HB.out.trans (hb.mono HB.out.size))
    have HSS := hid (HS.out _ hb)
    clear hb HS
    go_wp2_with fail
    refine HSS.out.mono ?_
    rintro e w2 ⟨rfl, rfl⟩
    go_wp2_with fail
    go_ret
    exact ⟨ret_int (by rw [HF.out]), HB1.out⟩
end Go.Proofs.Ytdcifcfkjhpokaa
