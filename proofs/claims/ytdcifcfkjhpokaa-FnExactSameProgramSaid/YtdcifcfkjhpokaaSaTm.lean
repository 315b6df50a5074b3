/- Walks: whether two are the same, of the program and of the reference. -/
import Derived.Test.YtdcifcfkjhpokaaSzTm
import Derived.Test.YtdcifcfkjhpokaaSaSc
import Derived.Test.YtdcifcfkjhpokaaTySame
import Derived.Lib.QuietBelow
namespace Go.Proofs.Ytdcifcfkjhpokaa
open Go.ChangeShapes Go.WideShapes Go.ChangeAt Go.RowKit
open Go.Sort (grow)
set_option linter.unusedVariables false

mutual
def Tm.eqb : Tm → Tm → Bool
  | .mk k1 u1 n1 t1 ns1 ks1, .mk k2 u2 n2 t2 ns2 ks2 => (decide (k1 = k2) && (decide (u1 = u2) && (decide (n1 = n2) && (Ty.eqb t1 t2 && (decide (ns1 = ns2) && Tm.eqbs ks1 ks2)))))
def Tm.eqbs : List Tm → List Tm → Bool
  | [], [] => true
  | t :: ts, u :: us => Tm.eqb t u && Tm.eqbs ts us
  | _, _ => false
end
theorem Tm.eqbs_length : ∀ (ts us : List Tm), ts.length ≠ us.length → Tm.eqbs ts us = false
  | [], [], h => absurd rfl h
  | [], _ :: _, _ => rfl
  | _ :: _, [], _ => rfl
  | t :: ts, u :: us, h => by rw [Tm.eqbs, Tm.eqbs_length ts us (by simpa using h)]; simp
theorem Tm.eqbs_no : ∀ (ts us : List Tm) (j : Nat) (t u : Tm), ts[j]? = some t → us[j]? = some u → Tm.eqb t u = false → Tm.eqbs ts us = false
  | [], _, j, t, u, h, _, _ => by simp at h
  | _ :: _, [], j, t, u, _, h, _ => by simp at h
  | t' :: ts, u' :: us, 0, t, u, h, h', e => by simp at h h'; subst h h'; simp [Tm.eqbs, e]
  | t' :: ts, u' :: us, j + 1, t, u, h, h', e => by rw [Tm.eqbs, Tm.eqbs_no ts us j t u (by simpa using h) (by simpa using h') e]; simp
theorem Tm.eqbs_yes : ∀ (ts us : List Tm), ts.length = us.length → (∀ (j : Nat) t u, ts[j]? = some t → us[j]? = some u → Tm.eqb t u = true) → Tm.eqbs ts us = true
  | [], [], _, _ => rfl
  | [], _ :: _, h, _ => by simp at h
  | _ :: _, [], h, _ => by simp at h
  | t :: ts, u :: us, h, e => by
    rw [Tm.eqbs, e 0 t u rfl rfl, Tm.eqbs_yes ts us (by simpa using h) (fun j t u h1 h2 => e (j + 1) t u (by simpa using h1) (by simpa using h2))]
    rfl

def SameTmW (f : FuncId) (N : Nat) : Prop := ∀ (k1 : Int) (u1 : Int) (n1 : ByteArray) (tk1 : Int) (tn1 : ByteArray) (tks1 : List Ty) (ns1 : List ByteArray) (ks1 : List Tm) (atks1 : Option Addr) (ctks1 : Nat) (ans1 : Option Addr) (cns1 : Nat) (aks1 : Option Addr) (cks1 : Nat) (k2 : Int) (u2 : Int) (n2 : ByteArray) (tk2 : Int) (tn2 : ByteArray) (tks2 : List Ty) (ns2 : List ByteArray) (ks2 : List Tm) (atks2 : Option Addr) (ctks2 : Nat) (ans2 : Option Addr) (cns2 : Nat) (aks2 : Option Addr) (cks2 : Nat) (w : World), Tm.bulk (Tm.mk k1 u1 n1 (Ty.mk tk1 tn1 tks1) ns1 ks1) < N → RdS w (Tm.d (Tm.mk k1 u1 n1 (Ty.mk tk1 tn1 tks1) ns1 ks1)) [.int .i64 k1, .int .i64 u1, .string n1, .int .i64 tk1, .string tn1, .slice atks1 tks1.length ctks1, .slice ans1 ns1.length cns1, .slice aks1 ks1.length cks1] → RdS w (Tm.d (Tm.mk k2 u2 n2 (Ty.mk tk2 tn2 tks2) ns2 ks2)) [.int .i64 k2, .int .i64 u2, .string n2, .int .i64 tk2, .string tn2, .slice atks2 tks2.length ctks2, .slice ans2 ns2.length cns2, .slice aks2 ks2.length cks2] →
  Calls Try.prog f #[.agg #[.int .i64 k1, .int .i64 u1, .string n1, .int .i64 tk1, .string tn1, .slice atks1 tks1.length ctks1, .slice ans1 ns1.length cns1, .slice aks1 ks1.length cks1], .agg #[.int .i64 k2, .int .i64 u2, .string n2, .int .i64 tk2, .string tn2, .slice atks2 tks2.length ctks2, .slice ans2 ns2.length cns2, .slice aks2 ks2.length cks2]] w fun e w' => e = .returned (.bool (Tm.eqb (Tm.mk k1 u1 n1 (Ty.mk tk1 tn1 tks1) ns1 ks1) (Tm.mk k2 u2 n2 (Ty.mk tk2 tn2 tks2) ns2 ks2))) ∧ Below w.heap.size w w'

set_option maxHeartbeats 1000000 in
theorem impl_EqualFuncTm (N : Nat) (ih : SameTmW 82 N) (ts us : List Tm) (a a' : Option Addr) (cap cap' : Nat) (w : World) (hN : Tm.bulks ts ≤ N) (hr : RdL w (Tm.ds ts) (.slice a ts.length cap)) (hr' : RdL w (Tm.ds us) (.slice a' us.length cap')) :
    Calls Try.prog 121 #[.slice a ts.length cap, .slice a' us.length cap', .func (.func 82) #[] #[]] w
      fun e w' => e = .returned (.bool (Tm.eqbs ts us)) ∧ Below w.heap.size w w' := by
  obtain ⟨_, _, e, h2, h3, h4⟩ := hr.eTm
  simp only [Value.slice.injEq, true_and] at e
  obtain ⟨rfl, rfl⟩ := e
  obtain ⟨_, _, e, h2', h3', h4'⟩ := hr'.eTm
  simp only [Value.slice.injEq, true_and] at e
  obtain ⟨rfl, rfl⟩ := e
  have IH := hid ih
  have H4 := hid h4
  have H4' := hid h4'
  clear ih hr h4 hr' h4'
  by_cases hl : ts.length = us.length
  · have hlb : ((ts.length : Int) != (us.length : Int)) = false := by simp [hl]
    have HL := hid hl
    clear hl
    go_enter Try.func121, Try.ntmps121
    go_wp2_with fail
    go_loopw [7, 8, 9, 17] (fun _ _ _ i wr => ∃ (j : Nat), j ≤ ts.length ∧ i = .int .i64 j ∧ Hid (∀ (i : Nat) t u, i < j → ts[i]? = some t → us[i]? = some u → Tm.eqb t u = true) ∧ Below w.heap.size w wr) (fun _ _ _ i _ => ts.length - (intOf i).toNat)
    case atStart => exact ⟨0, by omega, rfl, fun i t u hi => absurd hi (by omega), Below.refl _ _⟩
    case round =>
      obtain ⟨j, hj, rfl, HJ, hb⟩ := hrel
      by_cases hlt : j < ts.length
      · have x0 := hb.size
        have hlt' : j < us.length := by have := HL.out; omega
        obtain ⟨b, o, rfl, hbl, hall⟩ := H4.out (by omega)
        obtain ⟨b', o', rfl, hbl', hall'⟩ := H4'.out (by omega)
        obtain ⟨t, ht⟩ : ∃ t, ts[j]? = some t := ⟨_, List.getElem?_eq_getElem hlt⟩
        obtain ⟨t', ht'⟩ : ∃ t, us[j]? = some t := ⟨_, List.getElem?_eq_getElem hlt'⟩
        obtain ⟨k3, u3, n3, ⟨tk3, tn3, tks3⟩, ns3, ks3⟩ := t
        obtain ⟨k4, u4, n4, ⟨tk4, tn4, tks4⟩, ns4, ks4⟩ := t'
        obtain ⟨atks3, ctks3, ans3, cns3, aks3, cks3, q0, q1, q2, q3, q4, q5, q6, q7, hrk⟩ := hall j k3 u3 n3 tk3 tn3 tks3 ns3 ks3 ht
        obtain ⟨atks4, ctks4, ans4, cns4, aks4, cks4, p0, p1, p2, p3, p4, p5, p6, p7, hrk'⟩ := hall' j k4 u4 n4 tk4 tn4 tks4 ns4 ks4 ht'
        clear hall H4 hall' H4'
        have dq0 := (hb.cell (p := ⟨b, o + j * 8, none⟩) hbl).trans q0
        have dp0 := (hb.cell (p := ⟨b', o' + j * 8, none⟩) hbl').trans p0
        have dq1 := (hb.cell (p := ⟨b, o + j * 8 + 1, none⟩) hbl).trans q1
        have dp1 := (hb.cell (p := ⟨b', o' + j * 8 + 1, none⟩) hbl').trans p1
        have dq2 := (hb.cell (p := ⟨b, o + j * 8 + 2, none⟩) hbl).trans q2
        have dp2 := (hb.cell (p := ⟨b', o' + j * 8 + 2, none⟩) hbl').trans p2
        have dq3 := (hb.cell (p := ⟨b, o + j * 8 + 3, none⟩) hbl).trans q3
        have dp3 := (hb.cell (p := ⟨b', o' + j * 8 + 3, none⟩) hbl').trans p3
        have dq4 := (hb.cell (p := ⟨b, o + j * 8 + 4, none⟩) hbl).trans q4
        have dp4 := (hb.cell (p := ⟨b', o' + j * 8 + 4, none⟩) hbl').trans p4
        have dq5 := (hb.cell (p := ⟨b, o + j * 8 + 5, none⟩) hbl).trans q5
        have dp5 := (hb.cell (p := ⟨b', o' + j * 8 + 5, none⟩) hbl').trans p5
        have dq6 := (hb.cell (p := ⟨b, o + j * 8 + 6, none⟩) hbl).trans q6
        have dp6 := (hb.cell (p := ⟨b', o' + j * 8 + 6, none⟩) hbl').trans p6
        have dq7 := (hb.cell (p := ⟨b, o + j * 8 + 7, none⟩) hbl).trans q7
        have dp7 := (hb.cell (p := ⟨b', o' + j * 8 + 7, none⟩) hbl').trans p7
        have hbg := Tm.bulk_get ts j _ ht
        have x1 : b < wr.heap.size := Nat.lt_of_lt_of_le hbl hb.size
        have x2 : b' < wr.heap.size := Nat.lt_of_lt_of_le hbl' hb.size
        have hc := fun W hW => IH.out k3 u3 n3 tk3 tn3 tks3 ns3 ks3 atks3 ctks3 ans3 cns3 aks3 cks3 k4 u4 n4 tk4 tn4 tks4 ns4 ks4 atks4 ctks4 ans4 cns4 aks4 cks4 W (by omega) ((hrk.below hb).below hW) ((hrk'.below hb).below hW)
        have HT := hid ht
        have HT' := hid ht'
        have HC := hid hc
        clear ht hrk hrk' q0 q1 q2 q3 q4 q5 q6 q7 p0 p1 p2 p3 p4 p5 p6 p7 hc ht'
        cases hq : Tm.eqb (Tm.mk k3 u3 n3 (Ty.mk tk3 tn3 tks3) ns3 ks3) (Tm.mk k4 u4 n4 (Ty.mk tk4 tn4 tks4) ns4 ks4)
        · rw [hq] at HC
          go_wp2_with fail
          refine (HC.out _ (((Below.refl _ _).alloc (Nat.le_refl _) _).alloc (by simp) _)).mono ?_
          rintro e w1 ⟨rfl, hb1⟩
          have hbw : Below w.heap.size w w1 := ((hb.alloc hb.size _).alloc (by have := hb.size; simp; omega) _).trans (hb1.mono (by have := hb.size; simp; omega))
          go_wp2_with fail
          go_ret
          exact ⟨ret_bool (Tm.eqbs_no ts us j _ _ HT.out HT'.out hq).symm, hbw⟩
        · rw [hq] at HC
          go_wp2_with fail
          refine (HC.out _ (((Below.refl _ _).alloc (Nat.le_refl _) _).alloc (by simp) _)).mono ?_
          rintro e w1 ⟨rfl, hb1⟩
          have hbw : Below w.heap.size w w1 := ((hb.alloc hb.size _).alloc (by have := hb.size; simp; omega) _).trans (hb1.mono (by have := hb.size; simp; omega))
          clear hb1
          go_wp2_with fail
          go_roundw
          case rel =>
            refine ⟨j + 1, by omega, by go_num, fun i t u hi h1 h2 => ?_, hbw⟩
            rcases Nat.lt_succ_iff_lt_or_eq.1 hi with hi | rfl
            · exact HJ.out i t u hi h1 h2
            · obtain rfl := Option.some.inj (h1.symm.trans HT.out)
              obtain rfl := Option.some.inj (h2.symm.trans HT'.out)
              exact hq
          case measure => simp [intOf]; omega
      · go_wp2_with fail
        go_ret
        exact ⟨ret_bool (Tm.eqbs_yes ts us HL.out (fun i t u h1 h2 => HJ.out i t u (by have := (List.getElem?_eq_some_iff.1 h1).1; omega) h1 h2)).symm, hb⟩
  · have hlb : ((ts.length : Int) != (us.length : Int)) = true := by simp; omega
    rw [Tm.eqbs_length ts us hl]
    clear hl
    go_enter Try.func121, Try.ntmps121
    go_wp2_with fail
    go_ret
    exact ⟨rfl, Below.refl _ _⟩

set_option maxHeartbeats 2000000 in
theorem impl_SameTm_step (N : Nat) (ih : SameTmW 82 N) : SameTmW 82 (N + 1) := by
  intro k1 u1 n1 tk1 tn1 tks1 ns1 ks1 atks1 ctks1 ans1 cns1 aks1 cks1 k2 u2 n2 tk2 tn2 tks2 ns2 ks2 atks2 ctks2 ans2 cns2 aks2 cks2 w hN hr hr'
  have hbk : Tm.bulk (Tm.mk k1 u1 n1 (Ty.mk tk1 tn1 tks1) ns1 ks1) = n1.size + Ty.bulk (Ty.mk tk1 tn1 tks1) + Sr.bulks ns1 + Tm.bulks ks1 := rfl
  have he : Tm.eqb (Tm.mk k1 u1 n1 (Ty.mk tk1 tn1 tks1) ns1 ks1) (Tm.mk k2 u2 n2 (Ty.mk tk2 tn2 tks2) ns2 ks2) = (decide (k1 = k2) && (decide (u1 = u2) && (decide (n1 = n2) && (Ty.eqb (Ty.mk tk1 tn1 tks1) (Ty.mk tk2 tn2 tks2) && (decide (ns1 = ns2) && Tm.eqbs ks1 ks2))))) := rfl
  obtain ⟨f_k, f_u, f_n, f_t, f_ns, f_ks⟩ := hr.fTm
  obtain ⟨g_k, g_u, g_n, g_t, g_ns, g_ks⟩ := hr'.fTm
  have HX0 := hid (((Boxes.nil w).alloc #[.int .i64 k1, .int .i64 u1, .string n1, .int .i64 tk1, .string tn1, .slice atks1 tks1.length ctks1, .slice ans1 ns1.length cns1, .slice aks1 ks1.length cks1] 36 (0, 0)).alloc #[.int .i64 k2, .int .i64 u2, .string n2, .int .i64 tk2, .string tn2, .slice atks2 tks2.length ctks2, .slice ans2 ns2.length cns2, .slice aks2 ks2.length cks2] 36 (0, 0))
  have HB0 := hid (show Below w.heap.size w ((w.alloc (.cells #[.int .i64 k1, .int .i64 u1, .string n1, .int .i64 tk1, .string tn1, .slice atks1 tks1.length ctks1, .slice ans1 ns1.length cns1, .slice aks1 ks1.length cks1] 36)).alloc (.cells #[.int .i64 k2, .int .i64 u2, .string n2, .int .i64 tk2, .string tn2, .slice atks2 tks2.length ctks2, .slice ans2 ns2.length cns2, .slice aks2 ks2.length cks2] 36)) from ((Below.refl _ _).alloc (Nat.le_refl _) _).alloc (by simp) _)
  have hc0 := fun W (hW : Below w.heap.size w W) => impl_SameType tk1 tk2 tn1 tn2 tks1 tks2 atks1 atks2 ctks1 ctks2 W (hr.subTm_t.below hW) (hr'.subTm_t.below hW)
  have HC0 := hid hc0
  have hc1 := fun W (hW : Below w.heap.size w W) => impl_sameSr ns1 ns2 ans1 ans2 cns1 cns2 W (f_ns.below hW) (g_ns.below hW)
  have HC1 := hid hc1
  have hc2 := fun W (hW : Below w.heap.size w W) => impl_EqualFuncTm N ih ks1 ks2 aks1 aks2 cks1 cks2 W (by omega) (f_ks.below hW) (g_ks.below hW)
  have HC2 := hid hc2
  clear hc0 hc1 hc2
  rw [he]
  clear he
  clear ih hr hr' hbk
  clear f_k f_u f_n f_t f_ns f_ks g_k g_u g_n g_t g_ns g_ks
  by_cases h_k : k1 = k2
  case neg =>
    have e : (decide (k1 = k2) && (decide (u1 = u2) && (decide (n1 = n2) && (Ty.eqb (Ty.mk tk1 tn1 tks1) (Ty.mk tk2 tn2 tks2) && (decide (ns1 = ns2) && Tm.eqbs ks1 ks2))))) = false := by simp [h_k]
    rw [e]
    have hb_k : (k1 == k2) = false := by simp [h_k]
    clear e h_k HC0 HC1 HC2
    go_enter Try.func82, Try.ntmps82
    go_wp2_with fail
    go_ret
    exact ⟨rfl, HB0.out⟩
  case pos =>
    have hb_k : (k1 == k2) = true := by simp [h_k]
    by_cases h_u : u1 = u2
    case neg =>
      have e : (decide (k1 = k2) && (decide (u1 = u2) && (decide (n1 = n2) && (Ty.eqb (Ty.mk tk1 tn1 tks1) (Ty.mk tk2 tn2 tks2) && (decide (ns1 = ns2) && Tm.eqbs ks1 ks2))))) = false := by simp [h_k, h_u]
      rw [e]
      have hb_u : (u1 == u2) = false := by simp [h_u]
      clear e h_k h_u HC0 HC1 HC2
      go_enter Try.func82, Try.ntmps82
      go_wp2_with fail
      go_ret
      exact ⟨rfl, HB0.out⟩
    case pos =>
      have hb_u : (u1 == u2) = true := by simp [h_u]
      by_cases h_n : n1 = n2
      case neg =>
        have e : (decide (k1 = k2) && (decide (u1 = u2) && (decide (n1 = n2) && (Ty.eqb (Ty.mk tk1 tn1 tks1) (Ty.mk tk2 tn2 tks2) && (decide (ns1 = ns2) && Tm.eqbs ks1 ks2))))) = false := by simp [h_k, h_u, h_n]
        rw [e]
        have hb_n := bytes_ne h_n
        clear e h_k h_u h_n HC0 HC1 HC2
        go_enter Try.func82, Try.ntmps82
        go_wp2_with fail
        go_ret
        exact ⟨rfl, HB0.out⟩
      case pos =>
        have hb_n := bytes_eq h_n
        by_cases h_t : (Ty.eqb (Ty.mk tk1 tn1 tks1) (Ty.mk tk2 tn2 tks2)) = true
        case neg =>
          replace h_t := (Bool.not_eq_true _).mp h_t
          rw [h_t] at HC0
          have e : (decide (k1 = k2) && (decide (u1 = u2) && (decide (n1 = n2) && (Ty.eqb (Ty.mk tk1 tn1 tks1) (Ty.mk tk2 tn2 tks2) && (decide (ns1 = ns2) && Tm.eqbs ks1 ks2))))) = false := by simp only [h_t, Bool.false_and, Bool.and_false]
          rw [e]
          clear e h_k h_u h_n h_t HC1 HC2
          go_enter Try.func82, Try.ntmps82
          go_wp2_with fail
          refine (HC0.out _ HB0.out).mono ?_
          rintro e w1 ⟨rfl, hb⟩
          have HB1 := hid (HB0.out.trans (hb.mono HB0.out.size))
          have HX1 := hid (HX0.out.below hb)
          clear hb HC0
          have g0_0 := HX1.out.at 0 0 rfl rfl
          have g0_1 := HX1.out.at 0 1 rfl rfl
          have g0_2 := HX1.out.at 0 2 rfl rfl
          have g0_3 := HX1.out.at 0 3 rfl rfl
          have g0_4 := HX1.out.at 0 4 rfl rfl
          have g0_5 := HX1.out.at 0 5 rfl rfl
          have g0_6 := HX1.out.at 0 6 rfl rfl
          have g0_7 := HX1.out.at 0 7 rfl rfl
          have g1_0 := HX1.out.at 1 0 rfl rfl
          have g1_1 := HX1.out.at 1 1 rfl rfl
          have g1_2 := HX1.out.at 1 2 rfl rfl
          have g1_3 := HX1.out.at 1 3 rfl rfl
          have g1_4 := HX1.out.at 1 4 rfl rfl
          have g1_5 := HX1.out.at 1 5 rfl rfl
          have g1_6 := HX1.out.at 1 6 rfl rfl
          have g1_7 := HX1.out.at 1 7 rfl rfl
          simp only [World.size_alloc] at g0_0 g0_1 g0_2 g0_3 g0_4 g0_5 g0_6 g0_7
          go_wp2_with fail
          go_ret
          exact ⟨rfl, HB1.out⟩
        case pos =>
          rw [h_t] at HC0
          by_cases h_ns : (decide (ns1 = ns2)) = true
          case neg =>
            replace h_ns := (Bool.not_eq_true _).mp h_ns
            rw [h_ns] at HC1
            have e : (decide (k1 = k2) && (decide (u1 = u2) && (decide (n1 = n2) && (Ty.eqb (Ty.mk tk1 tn1 tks1) (Ty.mk tk2 tn2 tks2) && (decide (ns1 = ns2) && Tm.eqbs ks1 ks2))))) = false := by simp only [h_ns, Bool.false_and, Bool.and_false]
            rw [e]
            clear e h_k h_u h_n h_t h_ns HC2
            go_enter Try.func82, Try.ntmps82
            go_wp2_with fail
            refine (HC0.out _ HB0.out).mono ?_
            rintro e w1 ⟨rfl, hb⟩
            have HB1 := hid (HB0.out.trans (hb.mono HB0.out.size))
            have HX1 := hid (HX0.out.below hb)
            clear hb HC0
            have g0_0 := HX1.out.at 0 0 rfl rfl
            have g0_1 := HX1.out.at 0 1 rfl rfl
            have g0_2 := HX1.out.at 0 2 rfl rfl
            have g0_3 := HX1.out.at 0 3 rfl rfl
            have g0_4 := HX1.out.at 0 4 rfl rfl
            have g0_5 := HX1.out.at 0 5 rfl rfl
            have g0_6 := HX1.out.at 0 6 rfl rfl
            have g0_7 := HX1.out.at 0 7 rfl rfl
            have g1_0 := HX1.out.at 1 0 rfl rfl
            have g1_1 := HX1.out.at 1 1 rfl rfl
            have g1_2 := HX1.out.at 1 2 rfl rfl
            have g1_3 := HX1.out.at 1 3 rfl rfl
            have g1_4 := HX1.out.at 1 4 rfl rfl
            have g1_5 := HX1.out.at 1 5 rfl rfl
            have g1_6 := HX1.out.at 1 6 rfl rfl
            have g1_7 := HX1.out.at 1 7 rfl rfl
            simp only [World.size_alloc] at g0_0 g0_1 g0_2 g0_3 g0_4 g0_5 g0_6 g0_7
            go_wp2_with fail
            clear g0_0 g0_1 g0_2 g0_3 g0_4 g0_5 g0_6 g0_7 g1_0 g1_1 g1_2 g1_3 g1_4 g1_5 g1_6 g1_7
            refine (HC1.out _ HB1.out).mono ?_
            rintro e w2 ⟨rfl, hb⟩
            have HB2 := hid (HB1.out.trans (hb.mono HB1.out.size))
            have HX2 := hid (HX1.out.below hb)
            clear hb HC1
            have g0_0 := HX2.out.at 0 0 rfl rfl
            have g0_1 := HX2.out.at 0 1 rfl rfl
            have g0_2 := HX2.out.at 0 2 rfl rfl
            have g0_3 := HX2.out.at 0 3 rfl rfl
            have g0_4 := HX2.out.at 0 4 rfl rfl
            have g0_5 := HX2.out.at 0 5 rfl rfl
            have g0_6 := HX2.out.at 0 6 rfl rfl
            have g0_7 := HX2.out.at 0 7 rfl rfl
            have g1_0 := HX2.out.at 1 0 rfl rfl
            have g1_1 := HX2.out.at 1 1 rfl rfl
            have g1_2 := HX2.out.at 1 2 rfl rfl
            have g1_3 := HX2.out.at 1 3 rfl rfl
            have g1_4 := HX2.out.at 1 4 rfl rfl
            have g1_5 := HX2.out.at 1 5 rfl rfl
            have g1_6 := HX2.out.at 1 6 rfl rfl
            have g1_7 := HX2.out.at 1 7 rfl rfl
            simp only [World.size_alloc] at g0_0 g0_1 g0_2 g0_3 g0_4 g0_5 g0_6 g0_7
            go_wp2_with fail
            go_ret
            exact ⟨rfl, HB2.out⟩
          case pos =>
            rw [h_ns] at HC1
            have e : (decide (k1 = k2) && (decide (u1 = u2) && (decide (n1 = n2) && (Ty.eqb (Ty.mk tk1 tn1 tks1) (Ty.mk tk2 tn2 tks2) && (decide (ns1 = ns2) && Tm.eqbs ks1 ks2))))) = Tm.eqbs ks1 ks2 := by simp only [h_k, h_u, h_n, h_t, h_ns, decide_true, Bool.true_and]
            rw [e]
            clear e h_k h_u h_n h_t h_ns
            go_enter Try.func82, Try.ntmps82
            go_wp2_with fail
            refine (HC0.out _ HB0.out).mono ?_
            rintro e w1 ⟨rfl, hb⟩
            have HB1 := hid (HB0.out.trans (hb.mono HB0.out.size))
            have HX1 := hid (HX0.out.below hb)
            clear hb HC0
            have g0_0 := HX1.out.at 0 0 rfl rfl
            have g0_1 := HX1.out.at 0 1 rfl rfl
            have g0_2 := HX1.out.at 0 2 rfl rfl
            have g0_3 := HX1.out.at 0 3 rfl rfl
            have g0_4 := HX1.out.at 0 4 rfl rfl
            have g0_5 := HX1.out.at 0 5 rfl rfl
            have g0_6 := HX1.out.at 0 6 rfl rfl
            have g0_7 := HX1.out.at 0 7 rfl rfl
            have g1_0 := HX1.out.at 1 0 rfl rfl
            have g1_1 := HX1.out.at 1 1 rfl rfl
            have g1_2 := HX1.out.at 1 2 rfl rfl
            have g1_3 := HX1.out.at 1 3 rfl rfl
            have g1_4 := HX1.out.at 1 4 rfl rfl
            have g1_5 := HX1.out.at 1 5 rfl rfl
            have g1_6 := HX1.out.at 1 6 rfl rfl
            have g1_7 := HX1.out.at 1 7 rfl rfl
            simp only [World.size_alloc] at g0_0 g0_1 g0_2 g0_3 g0_4 g0_5 g0_6 g0_7
            go_wp2_with fail
            clear g0_0 g0_1 g0_2 g0_3 g0_4 g0_5 g0_6 g0_7 g1_0 g1_1 g1_2 g1_3 g1_4 g1_5 g1_6 g1_7
            refine (HC1.out _ HB1.out).mono ?_
            rintro e w2 ⟨rfl, hb⟩
            have HB2 := hid (HB1.out.trans (hb.mono HB1.out.size))
            have HX2 := hid (HX1.out.below hb)
            clear hb HC1
            have g0_0 := HX2.out.at 0 0 rfl rfl
            have g0_1 := HX2.out.at 0 1 rfl rfl
            have g0_2 := HX2.out.at 0 2 rfl rfl
            have g0_3 := HX2.out.at 0 3 rfl rfl
            have g0_4 := HX2.out.at 0 4 rfl rfl
            have g0_5 := HX2.out.at 0 5 rfl rfl
            have g0_6 := HX2.out.at 0 6 rfl rfl
            have g0_7 := HX2.out.at 0 7 rfl rfl
            have g1_0 := HX2.out.at 1 0 rfl rfl
            have g1_1 := HX2.out.at 1 1 rfl rfl
            have g1_2 := HX2.out.at 1 2 rfl rfl
            have g1_3 := HX2.out.at 1 3 rfl rfl
            have g1_4 := HX2.out.at 1 4 rfl rfl
            have g1_5 := HX2.out.at 1 5 rfl rfl
            have g1_6 := HX2.out.at 1 6 rfl rfl
            have g1_7 := HX2.out.at 1 7 rfl rfl
            simp only [World.size_alloc] at g0_0 g0_1 g0_2 g0_3 g0_4 g0_5 g0_6 g0_7
            go_wp2_with fail
            clear g0_0 g0_1 g0_2 g0_3 g0_4 g0_5 g0_6 g0_7 g1_0 g1_1 g1_2 g1_3 g1_4 g1_5 g1_6 g1_7
            refine (HC2.out _ HB2.out).mono ?_
            rintro e w3 ⟨rfl, hb⟩
            have HB3 := hid (HB2.out.trans (hb.mono HB2.out.size))
            have HX3 := hid (HX2.out.below hb)
            clear hb HC2
            have g0_0 := HX3.out.at 0 0 rfl rfl
            have g0_1 := HX3.out.at 0 1 rfl rfl
            have g0_2 := HX3.out.at 0 2 rfl rfl
            have g0_3 := HX3.out.at 0 3 rfl rfl
            have g0_4 := HX3.out.at 0 4 rfl rfl
            have g0_5 := HX3.out.at 0 5 rfl rfl
            have g0_6 := HX3.out.at 0 6 rfl rfl
            have g0_7 := HX3.out.at 0 7 rfl rfl
            have g1_0 := HX3.out.at 1 0 rfl rfl
            have g1_1 := HX3.out.at 1 1 rfl rfl
            have g1_2 := HX3.out.at 1 2 rfl rfl
            have g1_3 := HX3.out.at 1 3 rfl rfl
            have g1_4 := HX3.out.at 1 4 rfl rfl
            have g1_5 := HX3.out.at 1 5 rfl rfl
            have g1_6 := HX3.out.at 1 6 rfl rfl
            have g1_7 := HX3.out.at 1 7 rfl rfl
            simp only [World.size_alloc] at g0_0 g0_1 g0_2 g0_3 g0_4 g0_5 g0_6 g0_7
            go_wp2_with fail
            go_ret
            exact ⟨rfl, HB3.out⟩

theorem impl_sameTm_all : ∀ N, SameTmW 82 N
  | 0 => fun _ _ _ _ _ _ _ _ _ _ _ _ _ _ _ _ _ _ _ _ _ _ _ _ _ _ _ _ _ h => absurd h (by omega)
  | N + 1 => impl_SameTm_step N (impl_sameTm_all N)
theorem impl_SameTerm (k1 : Int) (u1 : Int) (n1 : ByteArray) (tk1 : Int) (tn1 : ByteArray) (tks1 : List Ty) (ns1 : List ByteArray) (ks1 : List Tm) (atks1 : Option Addr) (ctks1 : Nat) (ans1 : Option Addr) (cns1 : Nat) (aks1 : Option Addr) (cks1 : Nat) (k2 : Int) (u2 : Int) (n2 : ByteArray) (tk2 : Int) (tn2 : ByteArray) (tks2 : List Ty) (ns2 : List ByteArray) (ks2 : List Tm) (atks2 : Option Addr) (ctks2 : Nat) (ans2 : Option Addr) (cns2 : Nat) (aks2 : Option Addr) (cks2 : Nat) (w : World) (hr : RdS w (Tm.d (Tm.mk k1 u1 n1 (Ty.mk tk1 tn1 tks1) ns1 ks1)) [.int .i64 k1, .int .i64 u1, .string n1, .int .i64 tk1, .string tn1, .slice atks1 tks1.length ctks1, .slice ans1 ns1.length cns1, .slice aks1 ks1.length cks1]) (hr' : RdS w (Tm.d (Tm.mk k2 u2 n2 (Ty.mk tk2 tn2 tks2) ns2 ks2)) [.int .i64 k2, .int .i64 u2, .string n2, .int .i64 tk2, .string tn2, .slice atks2 tks2.length ctks2, .slice ans2 ns2.length cns2, .slice aks2 ks2.length cks2]) :
    Calls Try.prog 82 #[.agg #[.int .i64 k1, .int .i64 u1, .string n1, .int .i64 tk1, .string tn1, .slice atks1 tks1.length ctks1, .slice ans1 ns1.length cns1, .slice aks1 ks1.length cks1], .agg #[.int .i64 k2, .int .i64 u2, .string n2, .int .i64 tk2, .string tn2, .slice atks2 tks2.length ctks2, .slice ans2 ns2.length cns2, .slice aks2 ks2.length cks2]] w fun e w' => e = .returned (.bool (Tm.eqb (Tm.mk k1 u1 n1 (Ty.mk tk1 tn1 tks1) ns1 ks1) (Tm.mk k2 u2 n2 (Ty.mk tk2 tn2 tks2) ns2 ks2))) ∧ Below w.heap.size w w' :=
  impl_sameTm_all (Tm.bulk (Tm.mk k1 u1 n1 (Ty.mk tk1 tn1 tks1) ns1 ks1) + 1) k1 u1 n1 tk1 tn1 tks1 ns1 ks1 atks1 ctks1 ans1 cns1 aks1 cks1 k2 u2 n2 tk2 tn2 tks2 ns2 ks2 atks2 ctks2 ans2 cns2 aks2 cks2 w (by omega) hr hr'

set_option maxHeartbeats 2000000 in
theorem spec_SameTm_step (N : Nat) (ih : SameTmW 74 N) : SameTmW 74 (N + 1) := by
  intro k1 u1 n1 tk1 tn1 tks1 ns1 ks1 atks1 ctks1 ans1 cns1 aks1 cks1 k2 u2 n2 tk2 tn2 tks2 ns2 ks2 atks2 ctks2 ans2 cns2 aks2 cks2 w hN hr hr'
  have hbk : Tm.bulk (Tm.mk k1 u1 n1 (Ty.mk tk1 tn1 tks1) ns1 ks1) = n1.size + Ty.bulk (Ty.mk tk1 tn1 tks1) + Sr.bulks ns1 + Tm.bulks ks1 := rfl
  have he : Tm.eqb (Tm.mk k1 u1 n1 (Ty.mk tk1 tn1 tks1) ns1 ks1) (Tm.mk k2 u2 n2 (Ty.mk tk2 tn2 tks2) ns2 ks2) = (decide (k1 = k2) && (decide (u1 = u2) && (decide (n1 = n2) && (Ty.eqb (Ty.mk tk1 tn1 tks1) (Ty.mk tk2 tn2 tks2) && (decide (ns1 = ns2) && Tm.eqbs ks1 ks2))))) := rfl
  obtain ⟨f_k, f_u, f_n, f_t, f_ns, f_ks⟩ := hr.fTm
  obtain ⟨g_k, g_u, g_n, g_t, g_ns, g_ks⟩ := hr'.fTm
  have HX0 := hid (((Boxes.nil w).alloc #[.int .i64 k1, .int .i64 u1, .string n1, .int .i64 tk1, .string tn1, .slice atks1 tks1.length ctks1, .slice ans1 ns1.length cns1, .slice aks1 ks1.length cks1] 36 (0, 0)).alloc #[.int .i64 k2, .int .i64 u2, .string n2, .int .i64 tk2, .string tn2, .slice atks2 tks2.length ctks2, .slice ans2 ns2.length cns2, .slice aks2 ks2.length cks2] 36 (0, 0))
  have HB0 := hid (show Below w.heap.size w ((w.alloc (.cells #[.int .i64 k1, .int .i64 u1, .string n1, .int .i64 tk1, .string tn1, .slice atks1 tks1.length ctks1, .slice ans1 ns1.length cns1, .slice aks1 ks1.length cks1] 36)).alloc (.cells #[.int .i64 k2, .int .i64 u2, .string n2, .int .i64 tk2, .string tn2, .slice atks2 tks2.length ctks2, .slice ans2 ns2.length cns2, .slice aks2 ks2.length cks2] 36)) from ((Below.refl _ _).alloc (Nat.le_refl _) _).alloc (by simp) _)
  have hc0 := fun W (hW : Below w.heap.size w W) => spec_SameType tk1 tk2 tn1 tn2 tks1 tks2 atks1 atks2 ctks1 ctks2 W (hr.subTm_t.below hW) (hr'.subTm_t.below hW)
  have HC0 := hid hc0
  have hc1 := fun W (hW : Below w.heap.size w W) => spec_sameSr ns1 ns2 ans1 ans2 cns1 cns2 W (f_ns.below hW) (g_ns.below hW)
  have HC1 := hid hc1
  clear hc0 hc1
  rw [he]
  clear he
  clear f_k f_u f_n f_t f_ns g_k g_u g_n g_t g_ns
  by_cases h_k : k1 = k2
  case neg =>
    have e : (decide (k1 = k2) && (decide (u1 = u2) && (decide (n1 = n2) && (Ty.eqb (Ty.mk tk1 tn1 tks1) (Ty.mk tk2 tn2 tks2) && (decide (ns1 = ns2) && Tm.eqbs ks1 ks2))))) = false := by simp [h_k]
    rw [e]
    have hb_k : (k1 != k2) = true := by simp [h_k]
    clear e h_k HC0 HC1 ih hr hr' hbk f_ks g_ks
    go_enter Try.func74, Try.ntmps74
    go_wp2_with fail
    go_ret
    exact ⟨rfl, HB0.out⟩
  case pos =>
    have hb_k : (k1 != k2) = false := by simp [h_k]
    by_cases h_u : u1 = u2
    case neg =>
      have e : (decide (k1 = k2) && (decide (u1 = u2) && (decide (n1 = n2) && (Ty.eqb (Ty.mk tk1 tn1 tks1) (Ty.mk tk2 tn2 tks2) && (decide (ns1 = ns2) && Tm.eqbs ks1 ks2))))) = false := by simp [h_k, h_u]
      rw [e]
      have hb_u : (u1 != u2) = true := by simp [h_u]
      clear e h_k h_u HC0 HC1 ih hr hr' hbk f_ks g_ks
      go_enter Try.func74, Try.ntmps74
      go_wp2_with fail
      go_ret
      exact ⟨rfl, HB0.out⟩
    case pos =>
      have hb_u : (u1 != u2) = false := by simp [h_u]
      by_cases h_n : n1 = n2
      case neg =>
        have e : (decide (k1 = k2) && (decide (u1 = u2) && (decide (n1 = n2) && (Ty.eqb (Ty.mk tk1 tn1 tks1) (Ty.mk tk2 tn2 tks2) && (decide (ns1 = ns2) && Tm.eqbs ks1 ks2))))) = false := by simp [h_k, h_u, h_n]
        rw [e]
        have hb_n := bytes_ne h_n
        clear e h_k h_u h_n HC0 HC1 ih hr hr' hbk f_ks g_ks
        go_enter Try.func74, Try.ntmps74
        go_wp2_with fail
        go_ret
        exact ⟨rfl, HB0.out⟩
      case pos =>
        have hb_n := bytes_eq h_n
        by_cases h_t : (Ty.eqb (Ty.mk tk1 tn1 tks1) (Ty.mk tk2 tn2 tks2)) = true
        case neg =>
          replace h_t := (Bool.not_eq_true _).mp h_t
          rw [h_t] at HC0
          have e : (decide (k1 = k2) && (decide (u1 = u2) && (decide (n1 = n2) && (Ty.eqb (Ty.mk tk1 tn1 tks1) (Ty.mk tk2 tn2 tks2) && (decide (ns1 = ns2) && Tm.eqbs ks1 ks2))))) = false := by simp only [h_t, Bool.false_and, Bool.and_false]
          rw [e]
          clear e h_k h_u h_n h_t HC1 ih hr hr' hbk f_ks g_ks
          go_enter Try.func74, Try.ntmps74
          go_wp2_with fail
          refine (HC0.out _ HB0.out).mono ?_
          rintro e w1 ⟨rfl, hb⟩
          have HB1 := hid (HB0.out.trans (hb.mono HB0.out.size))
          have HX1 := hid (HX0.out.below hb)
          clear hb HC0
          have g0_0 := HX1.out.at 0 0 rfl rfl
          have g0_1 := HX1.out.at 0 1 rfl rfl
          have g0_2 := HX1.out.at 0 2 rfl rfl
          have g0_3 := HX1.out.at 0 3 rfl rfl
          have g0_4 := HX1.out.at 0 4 rfl rfl
          have g0_5 := HX1.out.at 0 5 rfl rfl
          have g0_6 := HX1.out.at 0 6 rfl rfl
          have g0_7 := HX1.out.at 0 7 rfl rfl
          have g1_0 := HX1.out.at 1 0 rfl rfl
          have g1_1 := HX1.out.at 1 1 rfl rfl
          have g1_2 := HX1.out.at 1 2 rfl rfl
          have g1_3 := HX1.out.at 1 3 rfl rfl
          have g1_4 := HX1.out.at 1 4 rfl rfl
          have g1_5 := HX1.out.at 1 5 rfl rfl
          have g1_6 := HX1.out.at 1 6 rfl rfl
          have g1_7 := HX1.out.at 1 7 rfl rfl
          simp only [World.size_alloc] at g0_0 g0_1 g0_2 g0_3 g0_4 g0_5 g0_6 g0_7
          go_wp2_with fail
          go_ret
          exact ⟨rfl, HB1.out⟩
        case pos =>
          rw [h_t] at HC0
          by_cases h_ns : (decide (ns1 = ns2)) = true
          case neg =>
            replace h_ns := (Bool.not_eq_true _).mp h_ns
            rw [h_ns] at HC1
            have e : (decide (k1 = k2) && (decide (u1 = u2) && (decide (n1 = n2) && (Ty.eqb (Ty.mk tk1 tn1 tks1) (Ty.mk tk2 tn2 tks2) && (decide (ns1 = ns2) && Tm.eqbs ks1 ks2))))) = false := by simp only [h_ns, Bool.false_and, Bool.and_false]
            rw [e]
            clear e h_k h_u h_n h_t h_ns ih hr hr' hbk f_ks g_ks
            go_enter Try.func74, Try.ntmps74
            go_wp2_with fail
            refine (HC0.out _ HB0.out).mono ?_
            rintro e w1 ⟨rfl, hb⟩
            have HB1 := hid (HB0.out.trans (hb.mono HB0.out.size))
            have HX1 := hid (HX0.out.below hb)
            clear hb HC0
            have g0_0 := HX1.out.at 0 0 rfl rfl
            have g0_1 := HX1.out.at 0 1 rfl rfl
            have g0_2 := HX1.out.at 0 2 rfl rfl
            have g0_3 := HX1.out.at 0 3 rfl rfl
            have g0_4 := HX1.out.at 0 4 rfl rfl
            have g0_5 := HX1.out.at 0 5 rfl rfl
            have g0_6 := HX1.out.at 0 6 rfl rfl
            have g0_7 := HX1.out.at 0 7 rfl rfl
            have g1_0 := HX1.out.at 1 0 rfl rfl
            have g1_1 := HX1.out.at 1 1 rfl rfl
            have g1_2 := HX1.out.at 1 2 rfl rfl
            have g1_3 := HX1.out.at 1 3 rfl rfl
            have g1_4 := HX1.out.at 1 4 rfl rfl
            have g1_5 := HX1.out.at 1 5 rfl rfl
            have g1_6 := HX1.out.at 1 6 rfl rfl
            have g1_7 := HX1.out.at 1 7 rfl rfl
            simp only [World.size_alloc] at g0_0 g0_1 g0_2 g0_3 g0_4 g0_5 g0_6 g0_7
            go_wp2_with fail
            clear g0_0 g0_1 g0_2 g0_3 g0_4 g0_5 g0_6 g0_7 g1_0 g1_1 g1_2 g1_3 g1_4 g1_5 g1_6 g1_7
            refine (HC1.out _ HB1.out).mono ?_
            rintro e w2 ⟨rfl, hb⟩
            have HB2 := hid (HB1.out.trans (hb.mono HB1.out.size))
            have HX2 := hid (HX1.out.below hb)
            clear hb HC1
            have g0_0 := HX2.out.at 0 0 rfl rfl
            have g0_1 := HX2.out.at 0 1 rfl rfl
            have g0_2 := HX2.out.at 0 2 rfl rfl
            have g0_3 := HX2.out.at 0 3 rfl rfl
            have g0_4 := HX2.out.at 0 4 rfl rfl
            have g0_5 := HX2.out.at 0 5 rfl rfl
            have g0_6 := HX2.out.at 0 6 rfl rfl
            have g0_7 := HX2.out.at 0 7 rfl rfl
            have g1_0 := HX2.out.at 1 0 rfl rfl
            have g1_1 := HX2.out.at 1 1 rfl rfl
            have g1_2 := HX2.out.at 1 2 rfl rfl
            have g1_3 := HX2.out.at 1 3 rfl rfl
            have g1_4 := HX2.out.at 1 4 rfl rfl
            have g1_5 := HX2.out.at 1 5 rfl rfl
            have g1_6 := HX2.out.at 1 6 rfl rfl
            have g1_7 := HX2.out.at 1 7 rfl rfl
            simp only [World.size_alloc] at g0_0 g0_1 g0_2 g0_3 g0_4 g0_5 g0_6 g0_7
            go_wp2_with fail
            go_ret
            exact ⟨rfl, HB2.out⟩
          case pos =>
            rw [h_ns] at HC1
            have e : (decide (k1 = k2) && (decide (u1 = u2) && (decide (n1 = n2) && (Ty.eqb (Ty.mk tk1 tn1 tks1) (Ty.mk tk2 tn2 tks2) && (decide (ns1 = ns2) && Tm.eqbs ks1 ks2))))) = Tm.eqbs ks1 ks2 := by simp only [h_k, h_u, h_n, h_t, h_ns, decide_true, Bool.true_and]
            rw [e]
            clear e h_k h_u h_n h_t h_ns
            obtain ⟨_, _, e, h2, h3, h4⟩ := f_ks.eTm
            simp only [Value.slice.injEq, true_and] at e
            obtain ⟨rfl, rfl⟩ := e
            obtain ⟨_, _, e, h2', h3', h4'⟩ := g_ks.eTm
            simp only [Value.slice.injEq, true_and] at e
            obtain ⟨rfl, rfl⟩ := e
            have IH := hid ih
            have H4 := hid h4
            have H4' := hid h4'
            have HK := hid hbk
            clear ih hr h4 hr' h4' hbk f_ks g_ks
            by_cases hl : ks1.length = ks2.length
            case neg =>
              have hlb : ((ks1.length : Int) != (ks2.length : Int)) = true := by simp; omega
              rw [Tm.eqbs_length _ _ hl]
              clear hl H4 H4' IH
              go_enter Try.func74, Try.ntmps74
              go_wp2_with fail
              refine (HC0.out _ HB0.out).mono ?_
              rintro e w1 ⟨rfl, hb⟩
              have HB1 := hid (HB0.out.trans (hb.mono HB0.out.size))
              have HX1 := hid (HX0.out.below hb)
              clear hb HC0
              have g0_0 := HX1.out.at 0 0 rfl rfl
              have g0_1 := HX1.out.at 0 1 rfl rfl
              have g0_2 := HX1.out.at 0 2 rfl rfl
              have g0_3 := HX1.out.at 0 3 rfl rfl
              have g0_4 := HX1.out.at 0 4 rfl rfl
              have g0_5 := HX1.out.at 0 5 rfl rfl
              have g0_6 := HX1.out.at 0 6 rfl rfl
              have g0_7 := HX1.out.at 0 7 rfl rfl
              have g1_0 := HX1.out.at 1 0 rfl rfl
              have g1_1 := HX1.out.at 1 1 rfl rfl
              have g1_2 := HX1.out.at 1 2 rfl rfl
              have g1_3 := HX1.out.at 1 3 rfl rfl
              have g1_4 := HX1.out.at 1 4 rfl rfl
              have g1_5 := HX1.out.at 1 5 rfl rfl
              have g1_6 := HX1.out.at 1 6 rfl rfl
              have g1_7 := HX1.out.at 1 7 rfl rfl
              simp only [World.size_alloc] at g0_0 g0_1 g0_2 g0_3 g0_4 g0_5 g0_6 g0_7
              go_wp2_with fail
              clear g0_0 g0_1 g0_2 g0_3 g0_4 g0_5 g0_6 g0_7 g1_0 g1_1 g1_2 g1_3 g1_4 g1_5 g1_6 g1_7
              refine (HC1.out _ HB1.out).mono ?_
              rintro e w2 ⟨rfl, hb⟩
              have HB2 := hid (HB1.out.trans (hb.mono HB1.out.size))
              have HX2 := hid (HX1.out.below hb)
              clear hb HC1
              have g0_0 := HX2.out.at 0 0 rfl rfl
              have g0_1 := HX2.out.at 0 1 rfl rfl
              have g0_2 := HX2.out.at 0 2 rfl rfl
              have g0_3 := HX2.out.at 0 3 rfl rfl
              have g0_4 := HX2.out.at 0 4 rfl rfl
              have g0_5 := HX2.out.at 0 5 rfl rfl
              have g0_6 := HX2.out.at 0 6 rfl rfl
              have g0_7 := HX2.out.at 0 7 rfl rfl
              have g1_0 := HX2.out.at 1 0 rfl rfl
              have g1_1 := HX2.out.at 1 1 rfl rfl
              have g1_2 := HX2.out.at 1 2 rfl rfl
              have g1_3 := HX2.out.at 1 3 rfl rfl
              have g1_4 := HX2.out.at 1 4 rfl rfl
              have g1_5 := HX2.out.at 1 5 rfl rfl
              have g1_6 := HX2.out.at 1 6 rfl rfl
              have g1_7 := HX2.out.at 1 7 rfl rfl
              simp only [World.size_alloc] at g0_0 g0_1 g0_2 g0_3 g0_4 g0_5 g0_6 g0_7
              go_wp2_with fail
              go_ret
              exact ⟨rfl, HB2.out⟩
            case pos =>
              have hlb : ((ks1.length : Int) != (ks2.length : Int)) = false := by simp [hl]
              have HL := hid hl
              clear hl
              go_enter Try.func74, Try.ntmps74
              go_wp2_with fail
              refine (HC0.out _ HB0.out).mono ?_
              rintro e w1 ⟨rfl, hb⟩
              have HB1 := hid (HB0.out.trans (hb.mono HB0.out.size))
              have HX1 := hid (HX0.out.below hb)
              clear hb HC0
              have g0_0 := HX1.out.at 0 0 rfl rfl
              have g0_1 := HX1.out.at 0 1 rfl rfl
              have g0_2 := HX1.out.at 0 2 rfl rfl
              have g0_3 := HX1.out.at 0 3 rfl rfl
              have g0_4 := HX1.out.at 0 4 rfl rfl
              have g0_5 := HX1.out.at 0 5 rfl rfl
              have g0_6 := HX1.out.at 0 6 rfl rfl
              have g0_7 := HX1.out.at 0 7 rfl rfl
              have g1_0 := HX1.out.at 1 0 rfl rfl
              have g1_1 := HX1.out.at 1 1 rfl rfl
              have g1_2 := HX1.out.at 1 2 rfl rfl
              have g1_3 := HX1.out.at 1 3 rfl rfl
              have g1_4 := HX1.out.at 1 4 rfl rfl
              have g1_5 := HX1.out.at 1 5 rfl rfl
              have g1_6 := HX1.out.at 1 6 rfl rfl
              have g1_7 := HX1.out.at 1 7 rfl rfl
              simp only [World.size_alloc] at g0_0 g0_1 g0_2 g0_3 g0_4 g0_5 g0_6 g0_7
              go_wp2_with fail
              clear g0_0 g0_1 g0_2 g0_3 g0_4 g0_5 g0_6 g0_7 g1_0 g1_1 g1_2 g1_3 g1_4 g1_5 g1_6 g1_7
              refine (HC1.out _ HB1.out).mono ?_
              rintro e w2 ⟨rfl, hb⟩
              have HB2 := hid (HB1.out.trans (hb.mono HB1.out.size))
              have HX2 := hid (HX1.out.below hb)
              clear hb HC1
              have g0_0 := HX2.out.at 0 0 rfl rfl
              have g0_1 := HX2.out.at 0 1 rfl rfl
              have g0_2 := HX2.out.at 0 2 rfl rfl
              have g0_3 := HX2.out.at 0 3 rfl rfl
              have g0_4 := HX2.out.at 0 4 rfl rfl
              have g0_5 := HX2.out.at 0 5 rfl rfl
              have g0_6 := HX2.out.at 0 6 rfl rfl
              have g0_7 := HX2.out.at 0 7 rfl rfl
              have g1_0 := HX2.out.at 1 0 rfl rfl
              have g1_1 := HX2.out.at 1 1 rfl rfl
              have g1_2 := HX2.out.at 1 2 rfl rfl
              have g1_3 := HX2.out.at 1 3 rfl rfl
              have g1_4 := HX2.out.at 1 4 rfl rfl
              have g1_5 := HX2.out.at 1 5 rfl rfl
              have g1_6 := HX2.out.at 1 6 rfl rfl
              have g1_7 := HX2.out.at 1 7 rfl rfl
              simp only [World.size_alloc] at g0_0 g0_1 g0_2 g0_3 g0_4 g0_5 g0_6 g0_7
              go_wp2_with fail
              clear g0_0 g0_1 g0_2 g0_3 g0_4 g0_5 g0_6 g0_7 g1_0 g1_1 g1_2 g1_3 g1_4 g1_5 g1_6 g1_7
              go_loopw [5] (fun i wr => ∃ (j : Nat), j ≤ ks1.length ∧ i = .int .i64 j ∧ Hid (∀ (i : Nat) t u, i < j → ks1[i]? = some t → ks2[i]? = some u → Tm.eqb t u = true) ∧
                Below w2.heap.size w2 wr) (fun i _ => ks1.length - (intOf i).toNat)
              case atStart => exact ⟨0, by omega, rfl, fun i t u hi => absurd hi (by omega), Below.refl _ _⟩
              case round =>
                obtain ⟨j, hj, rfl, HJ, hb0⟩ := hrel
                have HXr := hid (HX2.out.below hb0)
                have bp0 := HXr.out.at 1 7 rfl rfl
                have bp1 := HXr.out.at 0 7 rfl rfl
                simp only [World.size_alloc] at bp1
                have hb : Below w.heap.size w wr := HB2.out.trans (hb0.mono HB2.out.size)
                by_cases hlt : j < ks1.length
                case pos =>
                  have hlt' : j < ks2.length := by have := HL.out; omega
                  obtain ⟨b, o, rfl, hbl, hall⟩ := H4.out (by omega)
                  obtain ⟨b', o', rfl, hbl', hall'⟩ := H4'.out (by omega)
                  obtain ⟨t, ht⟩ : ∃ t, ks1[j]? = some t := ⟨_, List.getElem?_eq_getElem hlt⟩
                  obtain ⟨t', ht'⟩ : ∃ t, ks2[j]? = some t := ⟨_, List.getElem?_eq_getElem hlt'⟩
                  obtain ⟨k3, u3, n3, ⟨tk3, tn3, tks3⟩, ns3, ks3⟩ := t
                  obtain ⟨k4, u4, n4, ⟨tk4, tn4, tks4⟩, ns4, ks4⟩ := t'
                  obtain ⟨atks3, ctks3, ans3, cns3, aks3, cks3, q0, q1, q2, q3, q4, q5, q6, q7, hrk⟩ := hall j k3 u3 n3 tk3 tn3 tks3 ns3 ks3 ht
                  obtain ⟨atks4, ctks4, ans4, cns4, aks4, cks4, p0, p1, p2, p3, p4, p5, p6, p7, hrk'⟩ := hall' j k4 u4 n4 tk4 tn4 tks4 ns4 ks4 ht'
                  clear hall H4 hall' H4'
                  have dq0 := cell_regrown ((hb.cell (p := ⟨b, o + j * 8, none⟩) hbl).trans q0)
                  have dp0 := cell_regrown ((hb.cell (p := ⟨b', o' + j * 8, none⟩) hbl').trans p0)
                  have dq1 := cell_regrown ((hb.cell (p := ⟨b, o + j * 8 + 1, none⟩) hbl).trans q1)
                  have dp1 := cell_regrown ((hb.cell (p := ⟨b', o' + j * 8 + 1, none⟩) hbl').trans p1)
                  have dq2 := cell_regrown ((hb.cell (p := ⟨b, o + j * 8 + 2, none⟩) hbl).trans q2)
                  have dp2 := cell_regrown ((hb.cell (p := ⟨b', o' + j * 8 + 2, none⟩) hbl').trans p2)
                  have dq3 := cell_regrown ((hb.cell (p := ⟨b, o + j * 8 + 3, none⟩) hbl).trans q3)
                  have dp3 := cell_regrown ((hb.cell (p := ⟨b', o' + j * 8 + 3, none⟩) hbl').trans p3)
                  have dq4 := cell_regrown ((hb.cell (p := ⟨b, o + j * 8 + 4, none⟩) hbl).trans q4)
                  have dp4 := cell_regrown ((hb.cell (p := ⟨b', o' + j * 8 + 4, none⟩) hbl').trans p4)
                  have dq5 := cell_regrown ((hb.cell (p := ⟨b, o + j * 8 + 5, none⟩) hbl).trans q5)
                  have dp5 := cell_regrown ((hb.cell (p := ⟨b', o' + j * 8 + 5, none⟩) hbl').trans p5)
                  have dq6 := cell_regrown ((hb.cell (p := ⟨b, o + j * 8 + 6, none⟩) hbl).trans q6)
                  have dp6 := cell_regrown ((hb.cell (p := ⟨b', o' + j * 8 + 6, none⟩) hbl').trans p6)
                  have dq7 := cell_regrown ((hb.cell (p := ⟨b, o + j * 8 + 7, none⟩) hbl).trans q7)
                  have dp7 := cell_regrown ((hb.cell (p := ⟨b', o' + j * 8 + 7, none⟩) hbl').trans p7)
                  have hbg := Tm.bulk_get ks1 j _ ht
                  have c6 := cell_regrown bp0
                  have c7 := cell_regrown bp1
                  have hc := fun d os => Calls.regrown_of (IH.out k3 u3 n3 tk3 tn3 tks3 ns3 ks3 atks3 ctks3 ans3 cns3 aks3 cks3 k4 u4 n4 tk4 tn4 tks4 ns4 ks4 atks4 ctks4 ans4 cns4 aks4 cks4 (grow (redrawn wr d) os) (by have := HK.out; omega) ((hrk.below hb).below (below_regrown wr d os)) ((hrk'.below hb).below (below_regrown wr d os)))
                  have HT := hid ht
                  have HT' := hid ht'
                  cases hq : Tm.eqb (Tm.mk k3 u3 n3 (Ty.mk tk3 tn3 tks3) ns3 ks3) (Tm.mk k4 u4 n4 (Ty.mk tk4 tn4 tks4) ns4 ks4)
                  all_goals
                    rw [hq] at hc
                    have HC := hid hc
                    have HQ := hid hq
                    clear ht hrk hrk' q0 q1 q2 q3 q4 q5 q6 q7 p0 p1 p2 p3 p4 p5 p6 p7 hc ht' hq
                    go_wp2_with fail
                    refine wp_region_quiet_below (by kernel_rfl) (by kernel_rfl) ?_
                    repeat (quiet_step (exact HC.out _ _))
                    refine wpQuiet_nil ?_
                    intro _ hw'
                    obtain ⟨⟨dq, osq⟩, hw''⟩ := hw'
                    subst hw''
                    have hbq := hb0.trans ((below_regrown wr dq osq).mono hb0.size)
                    have hbw := hb.trans ((below_regrown wr dq osq).mono hb.size)
                    clear HC c6 c7 bp0 bp1 dq0 dq1 dq2 dq3 dq4 dq5 dq6 dq7 dp0 dp1 dp2 dp3 dp4 dp5 dp6 dp7
                    go_wp2_with fail
                  · go_ret
                    exact ⟨ret_bool (Tm.eqbs_no ks1 ks2 j _ _ HT.out HT'.out HQ.out).symm, hbw⟩
                  · go_roundw
                    case rel =>
                      refine ⟨j + 1, by omega, by go_num, fun i t u hi h1 h2 => ?_, hbq⟩
                      rcases Nat.lt_succ_iff_lt_or_eq.1 hi with hi | rfl
                      · exact HJ.out i t u hi h1 h2
                      · obtain rfl := Option.some.inj (h1.symm.trans HT.out)
                        obtain rfl := Option.some.inj (h2.symm.trans HT'.out)
                        exact HQ.out
                    case measure => simp [intOf]; omega
                case neg =>
                  go_wp2_with fail
                  go_ret
                  exact ⟨ret_bool (Tm.eqbs_yes ks1 ks2 HL.out (fun i t u h1 h2 => HJ.out i t u (by have := (List.getElem?_eq_some_iff.1 h1).1; omega) h1 h2)).symm, hb⟩

theorem spec_sameTm_all : ∀ N, SameTmW 74 N
  | 0 => fun _ _ _ _ _ _ _ _ _ _ _ _ _ _ _ _ _ _ _ _ _ _ _ _ _ _ _ _ _ h => absurd h (by omega)
  | N + 1 => spec_SameTm_step N (spec_sameTm_all N)
theorem spec_SameTerm (k1 : Int) (u1 : Int) (n1 : ByteArray) (tk1 : Int) (tn1 : ByteArray) (tks1 : List Ty) (ns1 : List ByteArray) (ks1 : List Tm) (atks1 : Option Addr) (ctks1 : Nat) (ans1 : Option Addr) (cns1 : Nat) (aks1 : Option Addr) (cks1 : Nat) (k2 : Int) (u2 : Int) (n2 : ByteArray) (tk2 : Int) (tn2 : ByteArray) (tks2 : List Ty) (ns2 : List ByteArray) (ks2 : List Tm) (atks2 : Option Addr) (ctks2 : Nat) (ans2 : Option Addr) (cns2 : Nat) (aks2 : Option Addr) (cks2 : Nat) (w : World) (hr : RdS w (Tm.d (Tm.mk k1 u1 n1 (Ty.mk tk1 tn1 tks1) ns1 ks1)) [.int .i64 k1, .int .i64 u1, .string n1, .int .i64 tk1, .string tn1, .slice atks1 tks1.length ctks1, .slice ans1 ns1.length cns1, .slice aks1 ks1.length cks1]) (hr' : RdS w (Tm.d (Tm.mk k2 u2 n2 (Ty.mk tk2 tn2 tks2) ns2 ks2)) [.int .i64 k2, .int .i64 u2, .string n2, .int .i64 tk2, .string tn2, .slice atks2 tks2.length ctks2, .slice ans2 ns2.length cns2, .slice aks2 ks2.length cks2]) :
    Calls Try.prog 74 #[.agg #[.int .i64 k1, .int .i64 u1, .string n1, .int .i64 tk1, .string tn1, .slice atks1 tks1.length ctks1, .slice ans1 ns1.length cns1, .slice aks1 ks1.length cks1], .agg #[.int .i64 k2, .int .i64 u2, .string n2, .int .i64 tk2, .string tn2, .slice atks2 tks2.length ctks2, .slice ans2 ns2.length cns2, .slice aks2 ks2.length cks2]] w fun e w' => e = .returned (.bool (Tm.eqb (Tm.mk k1 u1 n1 (Ty.mk tk1 tn1 tks1) ns1 ks1) (Tm.mk k2 u2 n2 (Ty.mk tk2 tn2 tks2) ns2 ks2))) ∧ Below w.heap.size w w' :=
  spec_sameTm_all (Tm.bulk (Tm.mk k1 u1 n1 (Ty.mk tk1 tn1 tks1) ns1 ks1) + 1) k1 u1 n1 tk1 tn1 tks1 ns1 ks1 atks1 ctks1 ans1 cns1 aks1 cks1 k2 u2 n2 tk2 tn2 tks2 ns2 ks2 atks2 ctks2 ans2 cns2 aks2 cks2 w (by omega) hr hr'
end Go.Proofs.Ytdcifcfkjhpokaa
