/- Walks of the laws' helpers: the comparison of two copies of one Term. No condition. -/
import Derived.Test.YtikhofcjkcbpbaaGreatDoorSzTm
import Derived.Test.YtikhofcjkcbpbaaGreatDoorEqTy
import Derived.Test.YtikhofcjkcbpbaaGreatDoorEqSc
namespace Go.Proofs.YtikhofcjkcbpbaaGreatDoor
open Go.ChangeShapes Go.WideShapes Go.ChangeAt Go.RowKit
open Go.Sort (grow)
set_option linter.unusedVariables false

def EqTm (N : Nat) : Prop := ∀ (k : Int) (u : Int) (n : ByteArray) (tk : Int) (tn : ByteArray) (tks : List Ty) (ns : List ByteArray) (ks : List Tm) (atks : Option Addr) (ctks : Nat) (ans : Option Addr) (cns : Nat) (aks : Option Addr) (cks : Nat) (atks' : Option Addr) (ctks' : Nat) (ans' : Option Addr) (cns' : Nat) (aks' : Option Addr) (cks' : Nat) (w : World), Tm.bulk (Tm.mk k u n (Ty.mk tk tn tks) ns ks) < N → RdS w (Tm.d (Tm.mk k u n (Ty.mk tk tn tks) ns ks)) [.int .i64 k, .int .i64 u, .string n, .int .i64 tk, .string tn, .slice atks tks.length ctks, .slice ans ns.length cns, .slice aks ks.length cks] → RdS w (Tm.d (Tm.mk k u n (Ty.mk tk tn tks) ns ks)) [.int .i64 k, .int .i64 u, .string n, .int .i64 tk, .string tn, .slice atks' tks.length ctks', .slice ans' ns.length cns', .slice aks' ks.length cks'] →
  Calls Tryz.prog 9 #[.agg #[.int .i64 k, .int .i64 u, .string n, .int .i64 tk, .string tn, .slice atks tks.length ctks, .slice ans ns.length cns, .slice aks ks.length cks], .agg #[.int .i64 k, .int .i64 u, .string n, .int .i64 tk, .string tn, .slice atks' tks.length ctks', .slice ans' ns.length cns', .slice aks' ks.length cks']] w fun e w' => e = .returned (.bool true) ∧ Below w.heap.size w w'
def EqTms (N : Nat) : Prop := ∀ (ts : List Tm) (a a' : Option Addr) (c c' : Nat) (w : World), Tm.bulks ts < N → RdL w (Tm.ds ts) (.slice a ts.length c) → RdL w (Tm.ds ts) (.slice a' ts.length c') →
  Calls Tryz.prog 28 #[.slice a ts.length c, .slice a' ts.length c'] w fun e w' => e = .returned (.bool true) ∧ Below w.heap.size w w'
theorem eqTm_step (N : Nat) (ih : EqTms N) : EqTm N := by
  intro k u n tk tn tks ns ks atks ctks ans cns aks cks atks' ctks' ans' cns' aks' cks' w hN hr hr'
  have hbk : Tm.bulk (Tm.mk k u n (Ty.mk tk tn tks) ns ks) = n.size + Ty.bulk (Ty.mk tk tn tks) + Sr.bulks ns + Tm.bulks ks := rfl
  obtain ⟨⟨lok, hik⟩, ⟨lou, hiu⟩, zn, ⟨⟨lotk, hitk⟩, ztn, htks⟩, hns, hks⟩ := hr.fTm
  obtain ⟨⟨lok', hik'⟩, ⟨lou', hiu'⟩, zn', ⟨⟨lotk', hitk'⟩, ztn', htks'⟩, hns', hks'⟩ := hr'.fTm
  have hc1 := fun (W : World) (hb : Below w.heap.size w W) => eqTy tk tn tks atks ctks atks' ctks' W ((RdS.subTm_t hr).below hb) ((RdS.subTm_t hr').below hb)
  have hc2 := fun (W : World) (hb : Below w.heap.size w W) => eqSrs ns ans ans' cns cns' W (hns.below hb) (hns'.below hb)
  have hc3 := fun (W : World) (hb : Below w.heap.size w W) => ih ks aks aks' cks cks' W (by omega) (hks.below hb) (hks'.below hb)
  have HC1 := hid hc1
  have HC2 := hid hc2
  have HC3 := hid hc3
  have HX0 := hid (((Boxes.nil w).alloc #[.int .i64 k, .int .i64 u, .string n, .int .i64 tk, .string tn, .slice atks tks.length ctks, .slice ans ns.length cns, .slice aks ks.length cks] 36 (0, 0)).alloc #[.int .i64 k, .int .i64 u, .string n, .int .i64 tk, .string tn, .slice atks' tks.length ctks', .slice ans' ns.length cns', .slice aks' ks.length cks'] 36 (0, 0))
  have HB0 := hid (((Below.refl w.heap.size w).alloc (Nat.le_refl _) (.cells #[.int .i64 k, .int .i64 u, .string n, .int .i64 tk, .string tn, .slice atks tks.length ctks, .slice ans ns.length cns, .slice aks ks.length cks] 36)).alloc (by simp) (.cells #[.int .i64 k, .int .i64 u, .string n, .int .i64 tk, .string tn, .slice atks' tks.length ctks', .slice ans' ns.length cns', .slice aks' ks.length cks'] 36))
  clear hr hr' hbk hc1 hc2 hc3 ih hN htks htks' hns hns' hks hks'
  go_enter Tryz.func9, Tryz.ntmps9
  go_wp2_with fail
  refine (HC1.out _ HB0.out).mono ?_
  rintro e w1 ⟨rfl, hb1⟩
  have hbw1 := HB0.out.trans (hb1.mono (by simp; omega))
  have hx1 := HX0.out.below hb1
  have g1_6 := hx1.at 1 6 rfl rfl
  have k1_6 := hx1.at 0 6 rfl rfl
  have g1_7 := hx1.at 1 7 rfl rfl
  have k1_7 := hx1.at 0 7 rfl rfl
  simp only [World.size_alloc] at k1_6 k1_7
  have HX1 := hid hx1
  clear hx1 hb1 HC1
  go_wp2_with fail
  refine (HC2.out _ hbw1).mono ?_
  rintro e w2 ⟨rfl, hb2⟩
  have hbw2 := hbw1.trans (hb2.mono (by exact hbw1.size))
  have hx2 := HX1.out.below hb2
  have g2_7 := hx2.at 1 7 rfl rfl
  have k2_7 := hx2.at 0 7 rfl rfl
  simp only [World.size_alloc] at k2_7
  have HX2 := hid hx2
  clear hx2 hb2 HC2
  go_wp2_with fail
  refine (HC3.out _ hbw2).mono ?_
  rintro e w3 ⟨rfl, hb3⟩
  have hbw3 := hbw2.trans (hb3.mono (by exact hbw2.size))
  have hx3 := HX2.out.below hb3
  have HX3 := hid hx3
  clear hx3 hb3 HC3
  go_wp2_with fail
  go_ret
  exact ⟨rfl, hbw3⟩

theorem eqTms_step (N : Nat) (ih : EqTm N) : EqTms (N + 1) := by
  intro ts a a' c c' w hN hr hr'
  obtain ⟨_, _, e, h2, h3, h4⟩ := hr.eTm
  simp only [Value.slice.injEq, true_and] at e
  obtain ⟨rfl, rfl⟩ := e
  obtain ⟨_, _, e, h2', h3', h4'⟩ := hr'.eTm
  simp only [Value.slice.injEq, true_and] at e
  obtain ⟨rfl, rfl⟩ := e
  have H4 := hid h4
  have H4' := hid h4'
  have IH := hid ih
  clear hr h4 hr' h4' ih
  go_enter Tryz.func28, Tryz.ntmps28
  go_wp2_with fail
  go_loopw [5] (fun i wr => ∃ (j : Nat), j ≤ ts.length ∧ i = .int .i64 j ∧ Below w.heap.size w wr) (fun i _ => ts.length - (intOf i).toNat)
  case atStart => exact ⟨0, by omega, rfl, Below.refl _ _⟩
  case round =>
    obtain ⟨j, hj, rfl, hb⟩ := hrel
    by_cases hlt : j < ts.length
    · obtain ⟨b, o, rfl, hbl, hall⟩ := H4.out (by omega)
      obtain ⟨b', o', rfl, hbl', hall'⟩ := H4'.out (by omega)
      obtain ⟨t, ht⟩ : ∃ t, ts[j]? = some t := ⟨_, List.getElem?_eq_getElem hlt⟩
      obtain ⟨k1, u1, n1, ⟨tk1, tn1, tks1⟩, ns1, ks1⟩ := t
      obtain ⟨atks1, ctks1, ans1, cns1, aks1, cks1, q0, q1, q2, q3, q4, q5, q6, q7, hrk⟩ := hall j k1 u1 n1 tk1 tn1 tks1 ns1 ks1 ht
      obtain ⟨atks2, ctks2, ans2, cns2, aks2, cks2, p0, p1, p2, p3, p4, p5, p6, p7, hrk'⟩ := hall' j k1 u1 n1 tk1 tn1 tks1 ns1 ks1 ht
      clear hall H4 hall' H4'
      have d0 := cell_regrown ((hb.cell (p := ⟨b, o + j * 8, none⟩) hbl).trans q0)
      have d8 := cell_regrown ((hb.cell (p := ⟨b', o' + j * 8, none⟩) hbl').trans p0)
      have d1 := cell_regrown ((hb.cell (p := ⟨b, o + j * 8 + 1, none⟩) hbl).trans q1)
      have d9 := cell_regrown ((hb.cell (p := ⟨b', o' + j * 8 + 1, none⟩) hbl').trans p1)
      have d2 := cell_regrown ((hb.cell (p := ⟨b, o + j * 8 + 2, none⟩) hbl).trans q2)
      have d10 := cell_regrown ((hb.cell (p := ⟨b', o' + j * 8 + 2, none⟩) hbl').trans p2)
      have d3 := cell_regrown ((hb.cell (p := ⟨b, o + j * 8 + 3, none⟩) hbl).trans q3)
      have d11 := cell_regrown ((hb.cell (p := ⟨b', o' + j * 8 + 3, none⟩) hbl').trans p3)
      have d4 := cell_regrown ((hb.cell (p := ⟨b, o + j * 8 + 4, none⟩) hbl).trans q4)
      have d12 := cell_regrown ((hb.cell (p := ⟨b', o' + j * 8 + 4, none⟩) hbl').trans p4)
      have d5 := cell_regrown ((hb.cell (p := ⟨b, o + j * 8 + 5, none⟩) hbl).trans q5)
      have d13 := cell_regrown ((hb.cell (p := ⟨b', o' + j * 8 + 5, none⟩) hbl').trans p5)
      have d6 := cell_regrown ((hb.cell (p := ⟨b, o + j * 8 + 6, none⟩) hbl).trans q6)
      have d14 := cell_regrown ((hb.cell (p := ⟨b', o' + j * 8 + 6, none⟩) hbl').trans p6)
      have d7 := cell_regrown ((hb.cell (p := ⟨b, o + j * 8 + 7, none⟩) hbl).trans q7)
      have d15 := cell_regrown ((hb.cell (p := ⟨b', o' + j * 8 + 7, none⟩) hbl').trans p7)
      have hbg := Tm.bulk_get ts j _ ht
      have hc := fun d os => Calls.regrown_of (IH.out k1 u1 n1 tk1 tn1 tks1 ns1 ks1 atks1 ctks1 ans1 cns1 aks1 cks1 atks2 ctks2 ans2 cns2 aks2 cks2 (grow (redrawn wr d) os) (by omega) ((hrk.below hb).below (below_regrown wr d os)) ((hrk'.below hb).below (below_regrown wr d os)))
      have HC := hid hc
      clear ht hrk hrk' q0 q1 q2 q3 q4 q5 q6 q7 p0 p1 p2 p3 p4 p5 p6 p7 hc
      go_wp2_with fail
      refine wp_region_quiet_below (by kernel_rfl) (by kernel_rfl) ?_
      repeat (quiet_step (exact HC.out _ _))
      refine wpQuiet_nil ?_
      intro _ hw'
      obtain ⟨⟨dq, osq⟩, hw''⟩ := hw'
      subst hw''
      have hbq := hb.trans ((below_regrown wr dq osq).mono hb.size)
      clear HC d0 d1 d2 d3 d4 d5 d6 d7 d8 d9 d10 d11 d12 d13 d14 d15
      go_wp2_with fail
      go_roundw
      case rel => exact ⟨j + 1, by omega, by go_num, hbq⟩
      case measure => simp [intOf]; omega
    · go_wp2_with fail
      go_ret
      exact ⟨rfl, hb⟩

theorem eqTm_all : ∀ M, EqTm M ∧ EqTms M
  | 0 => ⟨fun _ _ _ _ _ _ _ _ _ _ _ _ _ _ _ _ _ _ _ _ _ h => absurd h (by omega), fun _ _ _ _ _ _ h => absurd h (by omega)⟩
  | M + 1 => by
    have h := eqTm_all M
    have h2 := eqTms_step M h.1
    exact ⟨eqTm_step (M + 1) h2, h2⟩
theorem eqTm (k : Int) (u : Int) (n : ByteArray) (tk : Int) (tn : ByteArray) (tks : List Ty) (ns : List ByteArray) (ks : List Tm) (atks : Option Addr) (ctks : Nat) (ans : Option Addr) (cns : Nat) (aks : Option Addr) (cks : Nat) (atks' : Option Addr) (ctks' : Nat) (ans' : Option Addr) (cns' : Nat) (aks' : Option Addr) (cks' : Nat) (w : World) (hr : RdS w (Tm.d (Tm.mk k u n (Ty.mk tk tn tks) ns ks)) [.int .i64 k, .int .i64 u, .string n, .int .i64 tk, .string tn, .slice atks tks.length ctks, .slice ans ns.length cns, .slice aks ks.length cks]) (hr' : RdS w (Tm.d (Tm.mk k u n (Ty.mk tk tn tks) ns ks)) [.int .i64 k, .int .i64 u, .string n, .int .i64 tk, .string tn, .slice atks' tks.length ctks', .slice ans' ns.length cns', .slice aks' ks.length cks']) :
    Calls Tryz.prog 9 #[.agg #[.int .i64 k, .int .i64 u, .string n, .int .i64 tk, .string tn, .slice atks tks.length ctks, .slice ans ns.length cns, .slice aks ks.length cks], .agg #[.int .i64 k, .int .i64 u, .string n, .int .i64 tk, .string tn, .slice atks' tks.length ctks', .slice ans' ns.length cns', .slice aks' ks.length cks']] w fun e w' => e = .returned (.bool true) ∧ Below w.heap.size w w' :=
  (eqTm_all (Tm.bulk (Tm.mk k u n (Ty.mk tk tn tks) ns ks) + 1)).1 k u n tk tn tks ns ks atks ctks ans cns aks cks atks' ctks' ans' cns' aks' cks' w (by omega) hr hr'
theorem eqTms (ts : List Tm) (a a' : Option Addr) (c c' : Nat) (w : World) (hr : RdL w (Tm.ds ts) (.slice a ts.length c)) (hr' : RdL w (Tm.ds ts) (.slice a' ts.length c')) :
    Calls Tryz.prog 28 #[.slice a ts.length c, .slice a' ts.length c'] w fun e w' => e = .returned (.bool true) ∧ Below w.heap.size w w' :=
  (eqTm_all (Tm.bulks ts + 1)).2 ts a a' c c' w (by omega) hr hr'

end Go.Proofs.YtikhofcjkcbpbaaGreatDoor
