/- Walks of the laws' helpers: the size of Def. No condition. -/
import Derived.Test.YtgpefnlpbjnjbaaGreatDDf
import Derived.Test.YtgpefnlpbjnjbaaGreatSzTm
import Derived.Test.YtgpefnlpbjnjbaaGreatSzTy
import Derived.Test.YtgpefnlpbjnjbaaGreatSzSc
import Derived.Lib.QuietBelow
namespace Go.Proofs.YtgpefnlpbjnjbaaGreat
open Go.ChangeShapes Go.WideShapes Go.ChangeAt Go.RowKit
open Go.Sort (grow)
set_option linter.unusedVariables false

theorem RdS.subDf_t {w : World} {n : ByteArray} {tk : Int} {tn : ByteArray} {tks : List Ty} {bk : Int} {bu : Int} {bn : ByteArray} {btk : Int} {btn : ByteArray} {btks : List Ty} {bns : List ByteArray} {bks : List Tm} {atks : Option Addr} {ctks : Nat} {abtks : Option Addr} {cbtks : Nat} {abns : Option Addr} {cbns : Nat} {abks : Option Addr} {cbks : Nat} (h : RdS w (Df.d (Df.mk n (Ty.mk tk tn tks) (Tm.mk bk bu bn (Ty.mk btk btn btks) bns bks))) [.string n, .int .i64 tk, .string tn, .slice atks tks.length ctks, .int .i64 bk, .int .i64 bu, .string bn, .int .i64 btk, .string btn, .slice abtks btks.length cbtks, .slice abns bns.length cbns, .slice abks bks.length cbks]) : RdS w (Ty.d (Ty.mk tk tn tks)) [.int .i64 tk, .string tn, .slice atks tks.length ctks] := by
  obtain ⟨F, h⟩ := h
  obtain ⟨e1, r1, F1, G1, x1, rfl, g1, k1⟩ := h.struct_inv.cons_inv
  have l1 := g1.length
  obtain ⟨e2, r2, F2, G2, x2, rfl, g2, k2⟩ := k1.cons_inv
  have l2 := g2.length
  refine ⟨F2, ?_⟩
  simp only [D.len] at l1
  rw [Ty.d_len] at l2
  match e1, l1 with
  | [y1_0], _ =>
  simp only [List.cons_append, List.nil_append, List.cons.injEq] at x1
  obtain ⟨rfl, x1'⟩ := x1
  subst x1'
  match e2, l2 with
  | [y2_0, y2_1, y2_2], _ =>
  simp only [List.cons_append, List.nil_append, List.cons.injEq] at x2
  obtain ⟨rfl, rfl, rfl, x2'⟩ := x2
  exact g2
theorem RdS.subDf_b {w : World} {n : ByteArray} {tk : Int} {tn : ByteArray} {tks : List Ty} {bk : Int} {bu : Int} {bn : ByteArray} {btk : Int} {btn : ByteArray} {btks : List Ty} {bns : List ByteArray} {bks : List Tm} {atks : Option Addr} {ctks : Nat} {abtks : Option Addr} {cbtks : Nat} {abns : Option Addr} {cbns : Nat} {abks : Option Addr} {cbks : Nat} (h : RdS w (Df.d (Df.mk n (Ty.mk tk tn tks) (Tm.mk bk bu bn (Ty.mk btk btn btks) bns bks))) [.string n, .int .i64 tk, .string tn, .slice atks tks.length ctks, .int .i64 bk, .int .i64 bu, .string bn, .int .i64 btk, .string btn, .slice abtks btks.length cbtks, .slice abns bns.length cbns, .slice abks bks.length cbks]) : RdS w (Tm.d (Tm.mk bk bu bn (Ty.mk btk btn btks) bns bks)) [.int .i64 bk, .int .i64 bu, .string bn, .int .i64 btk, .string btn, .slice abtks btks.length cbtks, .slice abns bns.length cbns, .slice abks bks.length cbks] := by
  obtain ⟨F, h⟩ := h
  obtain ⟨e1, r1, F1, G1, x1, rfl, g1, k1⟩ := h.struct_inv.cons_inv
  have l1 := g1.length
  obtain ⟨e2, r2, F2, G2, x2, rfl, g2, k2⟩ := k1.cons_inv
  have l2 := g2.length
  obtain ⟨e3, r3, F3, G3, x3, rfl, g3, k3⟩ := k2.cons_inv
  have l3 := g3.length
  refine ⟨F3, ?_⟩
  simp only [D.len] at l1
  rw [Ty.d_len] at l2
  rw [Tm.d_len] at l3
  match e1, l1 with
  | [y1_0], _ =>
  simp only [List.cons_append, List.nil_append, List.cons.injEq] at x1
  obtain ⟨rfl, x1'⟩ := x1
  subst x1'
  match e2, l2 with
  | [y2_0, y2_1, y2_2], _ =>
  simp only [List.cons_append, List.nil_append, List.cons.injEq] at x2
  obtain ⟨rfl, rfl, rfl, x2'⟩ := x2
  subst x2'
  match e3, l3 with
  | [y3_0, y3_1, y3_2, y3_3, y3_4, y3_5, y3_6, y3_7], _ =>
  simp only [List.cons_append, List.nil_append, List.cons.injEq] at x3
  obtain ⟨rfl, rfl, rfl, rfl, rfl, rfl, rfl, rfl, x3'⟩ := x3
  exact g3
abbrev SzDf : Prop := ∀ (n : ByteArray) (tk : Int) (tn : ByteArray) (tks : List Ty) (bk : Int) (bu : Int) (bn : ByteArray) (btk : Int) (btn : ByteArray) (btks : List Ty) (bns : List ByteArray) (bks : List Tm) (atks : Option Addr) (ctks : Nat) (abtks : Option Addr) (cbtks : Nat) (abns : Option Addr) (cbns : Nat) (abks : Option Addr) (cbks : Nat) (left : Int) (w : World), RdS w (Df.d (Df.mk n (Ty.mk tk tn tks) (Tm.mk bk bu bn (Ty.mk btk btn btks) bns bks))) [.string n, .int .i64 tk, .string tn, .slice atks tks.length ctks, .int .i64 bk, .int .i64 bu, .string bn, .int .i64 btk, .string btn, .slice abtks btks.length cbtks, .slice abns bns.length cbns, .slice abks bks.length cbks] → 0 ≤ left → left ≤ 1048576 →
  Calls Tryz.prog 43 #[.agg #[.string n, .int .i64 tk, .string tn, .slice atks tks.length ctks, .int .i64 bk, .int .i64 bu, .string bn, .int .i64 btk, .string btn, .slice abtks btks.length cbtks, .slice abns bns.length cbns, .slice abks bks.length cbks], .int .i64 left] w fun e w' => e = .returned (.int .i64 (purse left (Df.bulk (Df.mk n (Ty.mk tk tn tks) (Tm.mk bk bu bn (Ty.mk btk btn btks) bns bks))))) ∧ Below w.heap.size w w'
theorem szDf : SzDf := by
  intro n tk tn tks bk bu bn btk btn btks bns bks atks ctks abtks cbtks abns cbns abks cbks left w hr h0 h1
  have hbk : Df.bulk (Df.mk n (Ty.mk tk tn tks) (Tm.mk bk bu bn (Ty.mk btk btn btks) bns bks)) = n.size + Ty.bulk (Ty.mk tk tn tks) + Tm.bulk (Tm.mk bk bu bn (Ty.mk btk btn btks) bns bks) := rfl
  obtain ⟨zn, ⟨⟨lotk, hitk⟩, ztn, htks⟩, ⟨⟨lobk, hibk⟩, ⟨lobu, hibu⟩, zbn, ⟨⟨lobtk, hibtk⟩, zbtn, hbtks⟩, hbns, hbks⟩⟩ := hr.fDf
  by_cases hp0 : ((n.size : Nat) : Int) ≤ left
  case neg =>
    have HBK := hid hbk
    have HX0 := hid ((Boxes.nil w).alloc #[.string n, .int .i64 tk, .string tn, .slice atks tks.length ctks, .int .i64 bk, .int .i64 bu, .string bn, .int .i64 btk, .string btn, .slice abtks btks.length cbtks, .slice abns bns.length cbns, .slice abks bks.length cbks] 85 (0, 0))
    have hbw0 : Below w.heap.size w (w.alloc (.cells #[.string n, .int .i64 tk, .string tn, .slice atks tks.length ctks, .int .i64 bk, .int .i64 bu, .string bn, .int .i64 btk, .string btn, .slice abtks btks.length cbtks, .slice abns bns.length cbns, .slice abks bks.length cbks] 85)) := (Below.refl _ _).alloc (Nat.le_refl _) _
    have HBW := hid hbw0
    clear hr hbk hbw0 htks hbtks hbns hbks
    go_enter Tryz.func43, Tryz.ntmps43
    go_wp2_with fail
    go_ret
    exact ⟨ret_int (by rw [purse_no (by have := HBK.out; omega)]), HBW.out⟩
  case pos =>
    skip
    have hc1 := fun (W : World) (hb : Below w.heap.size w W) => (szTy tk tn tks atks ctks (left - n.size) W ((RdS.subDf_t hr).below hb) (by omega) (by omega))
    by_cases hp1 : ((Ty.bulk (Ty.mk tk tn tks) : Nat) : Int) ≤ left - n.size
    case neg =>
      rw [purse_no hp1] at hc1
      have HC1 := hid hc1
      have HBK := hid hbk
      have HX0 := hid ((Boxes.nil w).alloc #[.string n, .int .i64 tk, .string tn, .slice atks tks.length ctks, .int .i64 bk, .int .i64 bu, .string bn, .int .i64 btk, .string btn, .slice abtks btks.length cbtks, .slice abns bns.length cbns, .slice abks bks.length cbks] 85 (0, 0))
      have hbw0 : Below w.heap.size w (w.alloc (.cells #[.string n, .int .i64 tk, .string tn, .slice atks tks.length ctks, .int .i64 bk, .int .i64 bu, .string bn, .int .i64 btk, .string btn, .slice abtks btks.length cbtks, .slice abns bns.length cbns, .slice abks bks.length cbks] 85)) := (Below.refl _ _).alloc (Nat.le_refl _) _
      have HBW := hid hbw0
      clear hr hbk hbw0 hc1 htks hbtks hbns hbks
      go_enter Tryz.func43, Tryz.ntmps43
      go_wp2_with fail
      refine (HC1.out _ HBW.out).mono ?_
      rintro e w1 ⟨rfl, hb1⟩
      have hbw1 := HBW.out.trans (hb1.mono (by simp))
      have hx1 := HX0.out.below hb1
      have HX1 := hid hx1
      clear hx1 hb1 HC1
      go_wp2_with fail
      go_ret
      exact ⟨ret_int (by rw [purse_no (by have := HBK.out; omega)]), hbw1⟩
    case pos =>
      rw [purse_ok hp1] at hc1
      have hc2 := fun (W : World) (hb : Below w.heap.size w W) => (szTm bk bu bn btk btn btks bns bks abtks cbtks abns cbns abks cbks (left - n.size - (Ty.bulk (Ty.mk tk tn tks) : Nat)) W ((RdS.subDf_b hr).below hb) (by omega) (by omega))
      by_cases hp2 : ((Tm.bulk (Tm.mk bk bu bn (Ty.mk btk btn btks) bns bks) : Nat) : Int) ≤ left - n.size - (Ty.bulk (Ty.mk tk tn tks) : Nat)
      case neg =>
        rw [purse_no hp2] at hc2
        have HC1 := hid hc1
        have HC2 := hid hc2
        have HBK := hid hbk
        have HX0 := hid ((Boxes.nil w).alloc #[.string n, .int .i64 tk, .string tn, .slice atks tks.length ctks, .int .i64 bk, .int .i64 bu, .string bn, .int .i64 btk, .string btn, .slice abtks btks.length cbtks, .slice abns bns.length cbns, .slice abks bks.length cbks] 85 (0, 0))
        have hbw0 : Below w.heap.size w (w.alloc (.cells #[.string n, .int .i64 tk, .string tn, .slice atks tks.length ctks, .int .i64 bk, .int .i64 bu, .string bn, .int .i64 btk, .string btn, .slice abtks btks.length cbtks, .slice abns bns.length cbns, .slice abks bks.length cbks] 85)) := (Below.refl _ _).alloc (Nat.le_refl _) _
        have HBW := hid hbw0
        clear hr hbk hbw0 hc1 hc2 htks hbtks hbns hbks
        go_enter Tryz.func43, Tryz.ntmps43
        go_wp2_with fail
        refine (HC1.out _ HBW.out).mono ?_
        rintro e w1 ⟨rfl, hb1⟩
        have hbw1 := HBW.out.trans (hb1.mono (by simp))
        have hx1 := HX0.out.below hb1
        have g1_4 := hx1.at 0 4 rfl rfl
        have g1_5 := hx1.at 0 5 rfl rfl
        have g1_6 := hx1.at 0 6 rfl rfl
        have g1_7 := hx1.at 0 7 rfl rfl
        have g1_8 := hx1.at 0 8 rfl rfl
        have g1_9 := hx1.at 0 9 rfl rfl
        have g1_10 := hx1.at 0 10 rfl rfl
        have g1_11 := hx1.at 0 11 rfl rfl
        have HX1 := hid hx1
        clear hx1 hb1 HC1
        go_wp2_with fail
        refine (HC2.out _ hbw1).mono ?_
        rintro e w2 ⟨rfl, hb2⟩
        have hbw2 := hbw1.trans (hb2.mono hbw1.size)
        have hx2 := HX1.out.below hb2
        have HX2 := hid hx2
        clear hx2 hb2 HC2
        go_wp2_with fail
        go_ret
        exact ⟨ret_int (by rw [purse_no (by have := HBK.out; omega)]), hbw2⟩
      case pos =>
        rw [purse_ok hp2] at hc2
        have HC1 := hid hc1
        have HC2 := hid hc2
        have HBK := hid hbk
        have HX0 := hid ((Boxes.nil w).alloc #[.string n, .int .i64 tk, .string tn, .slice atks tks.length ctks, .int .i64 bk, .int .i64 bu, .string bn, .int .i64 btk, .string btn, .slice abtks btks.length cbtks, .slice abns bns.length cbns, .slice abks bks.length cbks] 85 (0, 0))
        have hbw0 : Below w.heap.size w (w.alloc (.cells #[.string n, .int .i64 tk, .string tn, .slice atks tks.length ctks, .int .i64 bk, .int .i64 bu, .string bn, .int .i64 btk, .string btn, .slice abtks btks.length cbtks, .slice abns bns.length cbns, .slice abks bks.length cbks] 85)) := (Below.refl _ _).alloc (Nat.le_refl _) _
        have HBW := hid hbw0
        clear hr hbk hbw0 hc1 hc2 htks hbtks hbns hbks
        go_enter Tryz.func43, Tryz.ntmps43
        go_wp2_with fail
        refine (HC1.out _ HBW.out).mono ?_
        rintro e w1 ⟨rfl, hb1⟩
        have hbw1 := HBW.out.trans (hb1.mono (by simp))
        have hx1 := HX0.out.below hb1
        have g1_4 := hx1.at 0 4 rfl rfl
        have g1_5 := hx1.at 0 5 rfl rfl
        have g1_6 := hx1.at 0 6 rfl rfl
        have g1_7 := hx1.at 0 7 rfl rfl
        have g1_8 := hx1.at 0 8 rfl rfl
        have g1_9 := hx1.at 0 9 rfl rfl
        have g1_10 := hx1.at 0 10 rfl rfl
        have g1_11 := hx1.at 0 11 rfl rfl
        have HX1 := hid hx1
        clear hx1 hb1 HC1
        go_wp2_with fail
        refine (HC2.out _ hbw1).mono ?_
        rintro e w2 ⟨rfl, hb2⟩
        have hbw2 := hbw1.trans (hb2.mono hbw1.size)
        have hx2 := HX1.out.below hb2
        have HX2 := hid hx2
        clear hx2 hb2 HC2
        go_wp2_with fail
        go_ret
        exact ⟨ret_int (by rw [purse_ok (by have := HBK.out; omega)]; have := HBK.out; omega), hbw2⟩

theorem szDfs (ts : List Df) (a : Option Addr) (c : Nat) (left : Int) (w : World) (hr : RdL w (Df.ds ts) (.slice a ts.length c)) (h0 : 0 ≤ left) (h1 : left ≤ 1048576) :
    Calls Tryz.prog 20 #[.slice a ts.length c, .int .i64 left] w fun e w' => e = .returned (.int .i64 (purse left (Df.bulks ts))) ∧ Below w.heap.size w w' := by
  obtain ⟨_, _, e, h2, h3, h4⟩ := hr.eDf
  simp only [Value.slice.injEq, true_and] at e
  obtain ⟨rfl, rfl⟩ := e
  have hl := Df.bulks_length ts
  skip
  have H4 := hid h4
  clear hr h4 
  by_cases hs : left < ts.length
  · rw [purse_no (by omega)]
    go_enter Tryz.func20, Tryz.ntmps20
    go_wp2_with fail
    go_ret
    exact ⟨rfl, Below.refl _ _⟩
  · have hd0 : decide (left - (ts.length : Int) < 0) = false := by simp; omega
    go_enter Tryz.func20, Tryz.ntmps20
    go_wp2_with fail
    go_loopw [1, 5] (fun l i wr => ∃ (j : Nat) (L : Int), j ≤ ts.length ∧ i = .int .i64 j ∧ l = .int .i64 L ∧ Hid (L + (Df.bulks (ts.take j) + ts.length : Nat) = left + j) ∧ 0 ≤ L ∧ L ≤ 1048576 ∧ Below w.heap.size w wr) (fun _ i _ => ts.length - (intOf i).toNat)
    case atStart => exact ⟨0, left - ts.length, by omega, rfl, rfl, by show _ = _; simp [Df.bulks], by omega, by omega, Below.refl _ _⟩
    case round =>
      obtain ⟨j, L, hj, rfl, rfl, HL, hL0, hL1, hb⟩ := hrel
      by_cases hlt : j < ts.length
      · obtain ⟨b, o, rfl, hbl, hall⟩ := H4.out (by omega)
        obtain ⟨t, ht⟩ : ∃ t, ts[j]? = some t := ⟨_, List.getElem?_eq_getElem hlt⟩
        obtain ⟨n1, ⟨tk1, tn1, tks1⟩, ⟨bk1, bu1, bn1, ⟨btk1, btn1, btks1⟩, bns1, bks1⟩⟩ := t
        obtain ⟨atks1, ctks1, abtks1, cbtks1, abns1, cbns1, abks1, cbks1, q0, q1, q2, q3, q4, q5, q6, q7, q8, q9, q10, q11, hrk⟩ := hall j n1 tk1 tn1 tks1 bk1 bu1 bn1 btk1 btn1 btks1 bns1 bks1 ht
        clear hall H4
        have d0 := (hb.cell (p := ⟨b, o + j * 12, none⟩) hbl).trans q0
        have d1 := (hb.cell (p := ⟨b, o + j * 12 + 1, none⟩) hbl).trans q1
        have d2 := (hb.cell (p := ⟨b, o + j * 12 + 2, none⟩) hbl).trans q2
        have d3 := (hb.cell (p := ⟨b, o + j * 12 + 3, none⟩) hbl).trans q3
        have d4 := (hb.cell (p := ⟨b, o + j * 12 + 4, none⟩) hbl).trans q4
        have d5 := (hb.cell (p := ⟨b, o + j * 12 + 5, none⟩) hbl).trans q5
        have d6 := (hb.cell (p := ⟨b, o + j * 12 + 6, none⟩) hbl).trans q6
        have d7 := (hb.cell (p := ⟨b, o + j * 12 + 7, none⟩) hbl).trans q7
        have d8 := (hb.cell (p := ⟨b, o + j * 12 + 8, none⟩) hbl).trans q8
        have d9 := (hb.cell (p := ⟨b, o + j * 12 + 9, none⟩) hbl).trans q9
        have d10 := (hb.cell (p := ⟨b, o + j * 12 + 10, none⟩) hbl).trans q10
        have d11 := (hb.cell (p := ⟨b, o + j * 12 + 11, none⟩) hbl).trans q11
        have HT := hid ht
        have hc := szDf n1 tk1 tn1 tks1 bk1 bu1 bn1 btk1 btn1 btks1 bns1 bks1 atks1 ctks1 abtks1 cbtks1 abns1 cbns1 abks1 cbks1 L wr (hrk.below hb) hL0 hL1
        have hst := Df.bulks_take ts j _ ht
        have hle := Df.bulks_le ts (j + 1)
        by_cases hp : ((Df.bulk (Df.mk n1 (Ty.mk tk1 tn1 tks1) (Tm.mk bk1 bu1 bn1 (Ty.mk btk1 btn1 btks1) bns1 bks1)) : Nat) : Int) ≤ L
        · rw [purse_ok hp] at hc
          have HC := hid hc
          have HS := hid hst
          clear ht hrk q0 q1 q2 q3 q4 q5 q6 q7 q8 q9 q10 q11 hc hst
          go_wp2_with fail
          refine HC.out.mono ?_
          clear HC
          rintro e w1 ⟨rfl, hb1⟩
          go_wp2_with fail
          go_roundw
          case rel => exact ⟨j + 1, _, by omega, by go_num, rfl, by show _ = _; have := HL.out; have := HS.out; omega, by omega, by omega, hb.trans (hb1.mono hb.size)⟩
          case measure => simp [intOf]; omega
        · rw [purse_no hp] at hc
          have HC := hid hc
          have HS := hid hst
          clear ht hrk q0 q1 q2 q3 q4 q5 q6 q7 q8 q9 q10 q11 hc hst
          go_wp2_with fail
          refine HC.out.mono ?_
          clear HC
          rintro e w1 ⟨rfl, hb1⟩
          go_wp2_with fail
          go_ret
          exact ⟨ret_int (by rw [purse_no (by have := HL.out; have := HS.out; omega)]), hb.trans (hb1.mono hb.size)⟩
      · obtain rfl : j = ts.length := by omega
        rw [List.take_length] at HL
        go_wp2_with fail
        go_ret
        exact ⟨ret_int (by rw [purse_ok (by have := HL.out; omega)]; have := HL.out; omega), hb⟩

end Go.Proofs.YtgpefnlpbjnjbaaGreat
