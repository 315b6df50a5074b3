/- Walks of the laws' helpers: the size of Term. No condition. -/
import Derived.Test.YtikhofcjkcbpbaaGreatDoorDTm
import Derived.Test.YtikhofcjkcbpbaaGreatDoorSzTy
import Derived.Test.YtikhofcjkcbpbaaGreatDoorSzSc
import Derived.Lib.QuietBelow
namespace Go.Proofs.YtikhofcjkcbpbaaGreatDoor
open Go.ChangeShapes Go.WideShapes Go.ChangeAt Go.RowKit
open Go.Sort (grow)
set_option linter.unusedVariables false

theorem RdS.subTm_t {w : World} {k : Int} {u : Int} {n : ByteArray} {tk : Int} {tn : ByteArray} {tks : List Ty} {ns : List ByteArray} {ks : List Tm} {atks : Option Addr} {ctks : Nat} {ans : Option Addr} {cns : Nat} {aks : Option Addr} {cks : Nat} (h : RdS w (Tm.d (Tm.mk k u n (Ty.mk tk tn tks) ns ks)) [.int .i64 k, .int .i64 u, .string n, .int .i64 tk, .string tn, .slice atks tks.length ctks, .slice ans ns.length cns, .slice aks ks.length cks]) : RdS w (Ty.d (Ty.mk tk tn tks)) [.int .i64 tk, .string tn, .slice atks tks.length ctks] := by
  obtain ⟨F, h⟩ := h
  obtain ⟨e1, r1, F1, G1, x1, rfl, g1, k1⟩ := h.struct_inv.cons_inv
  have l1 := g1.length
  obtain ⟨e2, r2, F2, G2, x2, rfl, g2, k2⟩ := k1.cons_inv
  have l2 := g2.length
  obtain ⟨e3, r3, F3, G3, x3, rfl, g3, k3⟩ := k2.cons_inv
  have l3 := g3.length
  obtain ⟨e4, r4, F4, G4, x4, rfl, g4, k4⟩ := k3.cons_inv
  have l4 := g4.length
  refine ⟨F4, ?_⟩
  simp only [D.len] at l1
  simp only [D.len] at l2
  simp only [D.len] at l3
  rw [Ty.d_len] at l4
  match e1, l1 with
  | [y1_0], _ =>
  simp only [List.cons_append, List.nil_append, List.cons.injEq] at x1
  obtain ⟨rfl, x1'⟩ := x1
  subst x1'
  match e2, l2 with
  | [y2_0], _ =>
  simp only [List.cons_append, List.nil_append, List.cons.injEq] at x2
  obtain ⟨rfl, x2'⟩ := x2
  subst x2'
  match e3, l3 with
  | [y3_0], _ =>
  simp only [List.cons_append, List.nil_append, List.cons.injEq] at x3
  obtain ⟨rfl, x3'⟩ := x3
  subst x3'
  match e4, l4 with
  | [y4_0, y4_1, y4_2], _ =>
  simp only [List.cons_append, List.nil_append, List.cons.injEq] at x4
  obtain ⟨rfl, rfl, rfl, x4'⟩ := x4
  exact g4
def SzTm (N : Nat) : Prop := ∀ (k : Int) (u : Int) (n : ByteArray) (tk : Int) (tn : ByteArray) (tks : List Ty) (ns : List ByteArray) (ks : List Tm) (atks : Option Addr) (ctks : Nat) (ans : Option Addr) (cns : Nat) (aks : Option Addr) (cks : Nat) (left : Int) (w : World), Tm.bulk (Tm.mk k u n (Ty.mk tk tn tks) ns ks) < N → RdS w (Tm.d (Tm.mk k u n (Ty.mk tk tn tks) ns ks)) [.int .i64 k, .int .i64 u, .string n, .int .i64 tk, .string tn, .slice atks tks.length ctks, .slice ans ns.length cns, .slice aks ks.length cks] → 0 ≤ left → left ≤ 1048576 →
  Calls Tryz.prog 5 #[.agg #[.int .i64 k, .int .i64 u, .string n, .int .i64 tk, .string tn, .slice atks tks.length ctks, .slice ans ns.length cns, .slice aks ks.length cks], .int .i64 left] w fun e w' => e = .returned (.int .i64 (purse left (Tm.bulk (Tm.mk k u n (Ty.mk tk tn tks) ns ks)))) ∧ Below w.heap.size w w'
def SzTms (N : Nat) : Prop := ∀ (ts : List Tm) (a : Option Addr) (c : Nat) (left : Int) (w : World), Tm.bulks ts < N → RdL w (Tm.ds ts) (.slice a ts.length c) → 0 ≤ left → left ≤ 1048576 →
  Calls Tryz.prog 17 #[.slice a ts.length c, .int .i64 left] w fun e w' => e = .returned (.int .i64 (purse left (Tm.bulks ts))) ∧ Below w.heap.size w w'
theorem szTm_step (N : Nat) (ih : SzTms N) : SzTm N := by
  intro k u n tk tn tks ns ks atks ctks ans cns aks cks left w hN hr h0 h1
  have hbk : Tm.bulk (Tm.mk k u n (Ty.mk tk tn tks) ns ks) = n.size + Ty.bulk (Ty.mk tk tn tks) + Sr.bulks ns + Tm.bulks ks := rfl
  obtain ⟨⟨lok, hik⟩, ⟨lou, hiu⟩, zn, ⟨⟨lotk, hitk⟩, ztn, htks⟩, hns, hks⟩ := hr.fTm
  by_cases hp0 : ((n.size : Nat) : Int) ≤ left
  case neg =>
    have HBK := hid hbk
    have HX0 := hid ((Boxes.nil w).alloc #[.int .i64 k, .int .i64 u, .string n, .int .i64 tk, .string tn, .slice atks tks.length ctks, .slice ans ns.length cns, .slice aks ks.length cks] 28 (0, 0))
    have hbw0 : Below w.heap.size w (w.alloc (.cells #[.int .i64 k, .int .i64 u, .string n, .int .i64 tk, .string tn, .slice atks tks.length ctks, .slice ans ns.length cns, .slice aks ks.length cks] 28)) := (Below.refl _ _).alloc (Nat.le_refl _) _
    have HBW := hid hbw0
    clear hr hbk hbw0 ih htks hns hks
    go_enter Tryz.func5, Tryz.ntmps5
    go_wp2_with fail
    go_ret
    exact ⟨ret_int (by rw [purse_no (by have := HBK.out; omega)]), HBW.out⟩
  case pos =>
    skip
    have hc1 := fun (W : World) (hb : Below w.heap.size w W) => (szTy tk tn tks atks ctks (left - n.size) W ((RdS.subTm_t hr).below hb) (by omega) (by omega))
    by_cases hp1 : ((Ty.bulk (Ty.mk tk tn tks) : Nat) : Int) ≤ left - n.size
    case neg =>
      rw [purse_no hp1] at hc1
      have HC1 := hid hc1
      have HBK := hid hbk
      have HX0 := hid ((Boxes.nil w).alloc #[.int .i64 k, .int .i64 u, .string n, .int .i64 tk, .string tn, .slice atks tks.length ctks, .slice ans ns.length cns, .slice aks ks.length cks] 28 (0, 0))
      have hbw0 : Below w.heap.size w (w.alloc (.cells #[.int .i64 k, .int .i64 u, .string n, .int .i64 tk, .string tn, .slice atks tks.length ctks, .slice ans ns.length cns, .slice aks ks.length cks] 28)) := (Below.refl _ _).alloc (Nat.le_refl _) _
      have HBW := hid hbw0
      clear hr hbk hbw0 hc1 ih htks hns hks
      go_enter Tryz.func5, Tryz.ntmps5
      go_wp2_with fail
      refine (HC1.out _ HBW.out).mono ?_
      rintro e w1 ⟨rfl, hb1⟩
      have hbw1 := HBW.out.trans (hb1.mono (by simp))
      have hx1 := HX0.out.below hb1
      have HX1 := hid hx1
      clear hx1 hb1 HC1
      go_wp2_with fail
      go_ret
      exact ⟨ret_int (by rw [purse_no (by have := HBK.out; omega)]), hbw1⟩
    case pos =>
      rw [purse_ok hp1] at hc1
      have hc2 := fun (W : World) (hb : Below w.heap.size w W) => (szSrs ns ans cns (left - n.size - (Ty.bulk (Ty.mk tk tn tks) : Nat)) W (hns.below hb) (by omega) (by omega))
      by_cases hp2 : ((Sr.bulks ns : Nat) : Int) ≤ left - n.size - (Ty.bulk (Ty.mk tk tn tks) : Nat)
      case neg =>
        rw [purse_no hp2] at hc2
        have HC1 := hid hc1
        have HC2 := hid hc2
        have HBK := hid hbk
        have HX0 := hid ((Boxes.nil w).alloc #[.int .i64 k, .int .i64 u, .string n, .int .i64 tk, .string tn, .slice atks tks.length ctks, .slice ans ns.length cns, .slice aks ks.length cks] 28 (0, 0))
        have hbw0 : Below w.heap.size w (w.alloc (.cells #[.int .i64 k, .int .i64 u, .string n, .int .i64 tk, .string tn, .slice atks tks.length ctks, .slice ans ns.length cns, .slice aks ks.length cks] 28)) := (Below.refl _ _).alloc (Nat.le_refl _) _
        have HBW := hid hbw0
        clear hr hbk hbw0 hc1 hc2 ih htks hns hks
        go_enter Tryz.func5, Tryz.ntmps5
        go_wp2_with fail
        refine (HC1.out _ HBW.out).mono ?_
        rintro e w1 ⟨rfl, hb1⟩
        have hbw1 := HBW.out.trans (hb1.mono (by simp))
        have hx1 := HX0.out.below hb1
        have g1_6 := hx1.at 0 6 rfl rfl
        have HX1 := hid hx1
        clear hx1 hb1 HC1
        go_wp2_with fail
        refine (HC2.out _ hbw1).mono ?_
        rintro e w2 ⟨rfl, hb2⟩
        have hbw2 := hbw1.trans (hb2.mono hbw1.size)
        have hx2 := HX1.out.below hb2
        have HX2 := hid hx2
        clear hx2 hb2 HC2
        go_wp2_with fail
        go_ret
        exact ⟨ret_int (by rw [purse_no (by have := HBK.out; omega)]), hbw2⟩
      case pos =>
        rw [purse_ok hp2] at hc2
        have hc3 := fun (W : World) (hb : Below w.heap.size w W) => (ih ks aks cks (left - n.size - (Ty.bulk (Ty.mk tk tn tks) : Nat) - (Sr.bulks ns : Nat)) W (by omega) (hks.below hb) (by omega) (by omega))
        by_cases hp3 : ((Tm.bulks ks : Nat) : Int) ≤ left - n.size - (Ty.bulk (Ty.mk tk tn tks) : Nat) - (Sr.bulks ns : Nat)
        case neg =>
          rw [purse_no hp3] at hc3
          have HC1 := hid hc1
          have HC2 := hid hc2
          have HC3 := hid hc3
          have HBK := hid hbk
          have HX0 := hid ((Boxes.nil w).alloc #[.int .i64 k, .int .i64 u, .string n, .int .i64 tk, .string tn, .slice atks tks.length ctks, .slice ans ns.length cns, .slice aks ks.length cks] 28 (0, 0))
          have hbw0 : Below w.heap.size w (w.alloc (.cells #[.int .i64 k, .int .i64 u, .string n, .int .i64 tk, .string tn, .slice atks tks.length ctks, .slice ans ns.length cns, .slice aks ks.length cks] 28)) := (Below.refl _ _).alloc (Nat.le_refl _) _
          have HBW := hid hbw0
          clear hr hbk hbw0 hc1 hc2 hc3 ih htks hns hks
          go_enter Tryz.func5, Tryz.ntmps5
          go_wp2_with fail
          refine (HC1.out _ HBW.out).mono ?_
          rintro e w1 ⟨rfl, hb1⟩
          have hbw1 := HBW.out.trans (hb1.mono (by simp))
          have hx1 := HX0.out.below hb1
          have g1_6 := hx1.at 0 6 rfl rfl
          have g1_7 := hx1.at 0 7 rfl rfl
          have HX1 := hid hx1
          clear hx1 hb1 HC1
          go_wp2_with fail
          refine (HC2.out _ hbw1).mono ?_
          rintro e w2 ⟨rfl, hb2⟩
          have hbw2 := hbw1.trans (hb2.mono hbw1.size)
          have hx2 := HX1.out.below hb2
          have g2_7 := hx2.at 0 7 rfl rfl
          have HX2 := hid hx2
          clear hx2 hb2 HC2
          go_wp2_with fail
          refine (HC3.out _ hbw2).mono ?_
          rintro e w3 ⟨rfl, hb3⟩
          have hbw3 := hbw2.trans (hb3.mono hbw2.size)
          have hx3 := HX2.out.below hb3
          have HX3 := hid hx3
          clear hx3 hb3 HC3
          go_wp2_with fail
          go_ret
          exact ⟨ret_int (by rw [purse_no (by have := HBK.out; omega)]), hbw3⟩
        case pos =>
          rw [purse_ok hp3] at hc3
          have HC1 := hid hc1
          have HC2 := hid hc2
          have HC3 := hid hc3
          have HBK := hid hbk
          have HX0 := hid ((Boxes.nil w).alloc #[.int .i64 k, .int .i64 u, .string n, .int .i64 tk, .string tn, .slice atks tks.length ctks, .slice ans ns.length cns, .slice aks ks.length cks] 28 (0, 0))
          have hbw0 : Below w.heap.size w (w.alloc (.cells #[.int .i64 k, .int .i64 u, .string n, .int .i64 tk, .string tn, .slice atks tks.length ctks, .slice ans ns.length cns, .slice aks ks.length cks] 28)) := (Below.refl _ _).alloc (Nat.le_refl _) _
          have HBW := hid hbw0
          clear hr hbk hbw0 hc1 hc2 hc3 ih htks hns hks
          go_enter Tryz.func5, Tryz.ntmps5
          go_wp2_with fail
          refine (HC1.out _ HBW.out).mono ?_
          rintro e w1 ⟨rfl, hb1⟩
          have hbw1 := HBW.out.trans (hb1.mono (by simp))
          have hx1 := HX0.out.below hb1
          have g1_6 := hx1.at 0 6 rfl rfl
          have g1_7 := hx1.at 0 7 rfl rfl
          have HX1 := hid hx1
          clear hx1 hb1 HC1
          go_wp2_with fail
          refine (HC2.out _ hbw1).mono ?_
          rintro e w2 ⟨rfl, hb2⟩
          have hbw2 := hbw1.trans (hb2.mono hbw1.size)
          have hx2 := HX1.out.below hb2
          have g2_7 := hx2.at 0 7 rfl rfl
          have HX2 := hid hx2
          clear hx2 hb2 HC2
          go_wp2_with fail
          refine (HC3.out _ hbw2).mono ?_
          rintro e w3 ⟨rfl, hb3⟩
          have hbw3 := hbw2.trans (hb3.mono hbw2.size)
          have hx3 := HX2.out.below hb3
          have HX3 := hid hx3
          clear hx3 hb3 HC3
          go_wp2_with fail
          go_ret
          exact ⟨ret_int (by rw [purse_ok (by have := HBK.out; omega)]; have := HBK.out; omega), hbw3⟩

theorem szTms_step (N : Nat) (ih : SzTm N) : SzTms (N + 1) := by
  intro ts a c left w hN hr h0 h1
  obtain ⟨_, _, e, h2, h3, h4⟩ := hr.eTm
  simp only [Value.slice.injEq, true_and] at e
  obtain ⟨rfl, rfl⟩ := e
  have hl := Tm.bulks_length ts
  have IH := hid ih
  have H4 := hid h4
  clear hr h4 ih
  by_cases hs : left < ts.length
  · rw [purse_no (by omega)]
    go_enter Tryz.func17, Tryz.ntmps17
    go_wp2_with fail
    go_ret
    exact ⟨rfl, Below.refl _ _⟩
  · have hd0 : decide (left - (ts.length : Int) < 0) = false := by simp; omega
    go_enter Tryz.func17, Tryz.ntmps17
    go_wp2_with fail
    go_loopw [1, 5] (fun l i wr => ∃ (j : Nat) (L : Int), j ≤ ts.length ∧ i = .int .i64 j ∧ l = .int .i64 L ∧ Hid (L + (Tm.bulks (ts.take j) + ts.length : Nat) = left + j) ∧ 0 ≤ L ∧ L ≤ 1048576 ∧ Below w.heap.size w wr) (fun _ i _ => ts.length - (intOf i).toNat)
    case atStart => exact ⟨0, left - ts.length, by omega, rfl, rfl, by show _ = _; simp [Tm.bulks], by omega, by omega, Below.refl _ _⟩
    case round =>
      obtain ⟨j, L, hj, rfl, rfl, HL, hL0, hL1, hb⟩ := hrel
      by_cases hlt : j < ts.length
      · obtain ⟨b, o, rfl, hbl, hall⟩ := H4.out (by omega)
        obtain ⟨t, ht⟩ : ∃ t, ts[j]? = some t := ⟨_, List.getElem?_eq_getElem hlt⟩
        obtain ⟨k1, u1, n1, ⟨tk1, tn1, tks1⟩, ns1, ks1⟩ := t
        obtain ⟨atks1, ctks1, ans1, cns1, aks1, cks1, q0, q1, q2, q3, q4, q5, q6, q7, hrk⟩ := hall j k1 u1 n1 tk1 tn1 tks1 ns1 ks1 ht
        clear hall H4
        have d0 := (hb.cell (p := ⟨b, o + j * 8, none⟩) hbl).trans q0
        have d1 := (hb.cell (p := ⟨b, o + j * 8 + 1, none⟩) hbl).trans q1
        have d2 := (hb.cell (p := ⟨b, o + j * 8 + 2, none⟩) hbl).trans q2
        have d3 := (hb.cell (p := ⟨b, o + j * 8 + 3, none⟩) hbl).trans q3
        have d4 := (hb.cell (p := ⟨b, o + j * 8 + 4, none⟩) hbl).trans q4
        have d5 := (hb.cell (p := ⟨b, o + j * 8 + 5, none⟩) hbl).trans q5
        have d6 := (hb.cell (p := ⟨b, o + j * 8 + 6, none⟩) hbl).trans q6
        have d7 := (hb.cell (p := ⟨b, o + j * 8 + 7, none⟩) hbl).trans q7
        have HT := hid ht
        have hc := IH.out k1 u1 n1 tk1 tn1 tks1 ns1 ks1 atks1 ctks1 ans1 cns1 aks1 cks1 L wr (by have := Tm.bulk_get ts j _ ht; omega) (hrk.below hb) hL0 hL1
        have hst := Tm.bulks_take ts j _ ht
        have hle := Tm.bulks_le ts (j + 1)
        by_cases hp : ((Tm.bulk (Tm.mk k1 u1 n1 (Ty.mk tk1 tn1 tks1) ns1 ks1) : Nat) : Int) ≤ L
        · rw [purse_ok hp] at hc
          have HC := hid hc
          have HS := hid hst
          clear ht hrk q0 q1 q2 q3 q4 q5 q6 q7 hc hst
          go_wp2_with fail
          refine HC.out.mono ?_
          clear HC
          rintro e w1 ⟨rfl, hb1⟩
          go_wp2_with fail
          go_roundw
          case rel => exact ⟨j + 1, _, by omega, by go_num, rfl, by show _ = _; have := HL.out; have := HS.out; omega, by omega, by omega, hb.trans (hb1.mono hb.size)⟩
          case measure => simp [intOf]; omega
        · rw [purse_no hp] at hc
          have HC := hid hc
          have HS := hid hst
          clear ht hrk q0 q1 q2 q3 q4 q5 q6 q7 hc hst
          go_wp2_with fail
          refine HC.out.mono ?_
          clear HC
          rintro e w1 ⟨rfl, hb1⟩
          go_wp2_with fail
          go_ret
          exact ⟨ret_int (by rw [purse_no (by have := HL.out; have := HS.out; omega)]), hb.trans (hb1.mono hb.size)⟩
      · obtain rfl : j = ts.length := by omega
        rw [List.take_length] at HL
        go_wp2_with fail
        go_ret
        exact ⟨ret_int (by rw [purse_ok (by have := HL.out; omega)]; have := HL.out; omega), hb⟩

theorem szTm_all : ∀ M, SzTm M ∧ SzTms M
  | 0 => ⟨fun _ _ _ _ _ _ _ _ _ _ _ _ _ _ _ _ h => absurd h (by omega), fun _ _ _ _ _ h => absurd h (by omega)⟩
  | M + 1 => by
    have h := szTm_all M
    have h2 := szTms_step M h.1
    exact ⟨szTm_step (M + 1) h2, h2⟩
theorem szTm (k : Int) (u : Int) (n : ByteArray) (tk : Int) (tn : ByteArray) (tks : List Ty) (ns : List ByteArray) (ks : List Tm) (atks : Option Addr) (ctks : Nat) (ans : Option Addr) (cns : Nat) (aks : Option Addr) (cks : Nat) (left : Int) (w : World) (hr : RdS w (Tm.d (Tm.mk k u n (Ty.mk tk tn tks) ns ks)) [.int .i64 k, .int .i64 u, .string n, .int .i64 tk, .string tn, .slice atks tks.length ctks, .slice ans ns.length cns, .slice aks ks.length cks]) (h0 : 0 ≤ left) (h1 : left ≤ 1048576) :
    Calls Tryz.prog 5 #[.agg #[.int .i64 k, .int .i64 u, .string n, .int .i64 tk, .string tn, .slice atks tks.length ctks, .slice ans ns.length cns, .slice aks ks.length cks], .int .i64 left] w fun e w' => e = .returned (.int .i64 (purse left (Tm.bulk (Tm.mk k u n (Ty.mk tk tn tks) ns ks)))) ∧ Below w.heap.size w w' :=
  (szTm_all (Tm.bulk (Tm.mk k u n (Ty.mk tk tn tks) ns ks) + 1)).1 k u n tk tn tks ns ks atks ctks ans cns aks cks left w (by omega) hr h0 h1
theorem szTms (ts : List Tm) (a : Option Addr) (c : Nat) (left : Int) (w : World) (hr : RdL w (Tm.ds ts) (.slice a ts.length c)) (h0 : 0 ≤ left) (h1 : left ≤ 1048576) :
    Calls Tryz.prog 17 #[.slice a ts.length c, .int .i64 left] w fun e w' => e = .returned (.int .i64 (purse left (Tm.bulks ts))) ∧ Below w.heap.size w w' :=
  (szTm_all (Tm.bulks ts + 1)).2 ts a c left w (by omega) hr h0 h1

end Go.Proofs.YtikhofcjkcbpbaaGreatDoor
