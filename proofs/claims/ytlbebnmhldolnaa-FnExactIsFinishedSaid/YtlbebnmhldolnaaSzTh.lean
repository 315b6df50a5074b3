/- Walks of the laws' helpers: the size of Thunk. No condition. -/
import Derived.Test.YtlbebnmhldolnaaDTh
import Derived.Test.YtlbebnmhldolnaaSzCl
import Derived.Test.YtlbebnmhldolnaaSzSc
import Derived.Lib.QuietBelow
namespace Go.Proofs.Ytlbebnmhldolnaa
open Go.ChangeShapes Go.WideShapes Go.ChangeAt Go.RowKit
open Go.Sort (grow)
set_option linter.unusedVariables false

theorem RdS.subTh_c {w : World} {dn : Bool} {ctk : Int} {ctv : Int} {ctds : List Int} {ctks : List Co} {ces : List Int} {actds : Option Addr} {cctds : Nat} {actks : Option Addr} {cctks : Nat} {aces : Option Addr} {cces : Nat} (h : RdS w (Th.d (Th.mk dn (Cl.mk (Co.mk ctk ctv ctds ctks) ces))) [.bool dn, .int .i64 ctk, .int .i64 ctv, .slice actds ctds.length cctds, .slice actks ctks.length cctks, .slice aces ces.length cces]) : RdS w (Cl.d (Cl.mk (Co.mk ctk ctv ctds ctks) ces)) [.int .i64 ctk, .int .i64 ctv, .slice actds ctds.length cctds, .slice actks ctks.length cctks, .slice aces ces.length cces] := by
  obtain ⟨F, h⟩ := h
  obtain ⟨e1, r1, F1, G1, x1, rfl, g1, k1⟩ := h.struct_inv.cons_inv
  have l1 := g1.length
  obtain ⟨e2, r2, F2, G2, x2, rfl, g2, k2⟩ := k1.cons_inv
  have l2 := g2.length
  refine ⟨F2, ?_⟩
  simp only [D.len] at l1
  rw [Cl.d_len] at l2
  match e1, l1 with
  | [y1_0], _ =>
  simp only [List.cons_append, List.nil_append, List.cons.injEq] at x1
  obtain ⟨rfl, x1'⟩ := x1
  subst x1'
  match e2, l2 with
  | [y2_0, y2_1, y2_2, y2_3, y2_4], _ =>
  simp only [List.cons_append, List.nil_append, List.cons.injEq] at x2
  obtain ⟨rfl, rfl, rfl, rfl, rfl, x2'⟩ := x2
  exact g2
abbrev SzTh : Prop := ∀ (dn : Bool) (ctk : Int) (ctv : Int) (ctds : List Int) (ctks : List Co) (ces : List Int) (actds : Option Addr) (cctds : Nat) (actks : Option Addr) (cctks : Nat) (aces : Option Addr) (cces : Nat) (left : Int) (w : World), RdS w (Th.d (Th.mk dn (Cl.mk (Co.mk ctk ctv ctds ctks) ces))) [.bool dn, .int .i64 ctk, .int .i64 ctv, .slice actds ctds.length cctds, .slice actks ctks.length cctks, .slice aces ces.length cces] → 0 ≤ left → left ≤ 1048576 →
  Calls Try.prog 84 #[.agg #[.bool dn, .int .i64 ctk, .int .i64 ctv, .slice actds ctds.length cctds, .slice actks ctks.length cctks, .slice aces ces.length cces], .int .i64 left] w fun e w' => e = .returned (.int .i64 (purse left (Th.bulk (Th.mk dn (Cl.mk (Co.mk ctk ctv ctds ctks) ces))))) ∧ Below w.heap.size w w'
theorem szTh : SzTh := by
  intro dn ctk ctv ctds ctks ces actds cctds actks cctks aces cces left w hr h0 h1
  have hbk : Th.bulk (Th.mk dn (Cl.mk (Co.mk ctk ctv ctds ctks) ces)) = Cl.bulk (Cl.mk (Co.mk ctk ctv ctds ctks) ces) := rfl
  obtain ⟨⟨⟨loctk, hictk⟩, ⟨loctv, hictv⟩, hctds, hctks⟩, hces⟩ := hr.fTh
  have hc0 := fun (W : World) (hb : Below w.heap.size w W) => (szCl ctk ctv ctds ctks ces actds cctds actks cctks aces cces (left) W ((RdS.subTh_c hr).below hb) (by omega) (by omega))
  by_cases hp0 : ((Cl.bulk (Cl.mk (Co.mk ctk ctv ctds ctks) ces) : Nat) : Int) ≤ left
  case neg =>
    rw [purse_no hp0] at hc0
    have HC0 := hid hc0
    have HBK := hid hbk
    have HX0 := hid ((Boxes.nil w).alloc #[.bool dn, .int .i64 ctk, .int .i64 ctv, .slice actds ctds.length cctds, .slice actks ctks.length cctks, .slice aces ces.length cces] 118 (0, 0))
    have hbw0 : Below w.heap.size w (w.alloc (.cells #[.bool dn, .int .i64 ctk, .int .i64 ctv, .slice actds ctds.length cctds, .slice actks ctks.length cctks, .slice aces ces.length cces] 118)) := (Below.refl _ _).alloc (Nat.le_refl _) _
    have HBW := hid hbw0
    clear hr hbk hbw0 hc0 hctds hctks hces
    go_enter Try.func84, Try.ntmps84
    go_wp2_with fail
    refine (HC0.out _ HBW.out).mono ?_
    rintro e w1 ⟨rfl, hb1⟩
    have hbw1 := HBW.out.trans (hb1.mono (by simp))
    have hx1 := HX0.out.below hb1
    have HX1 := hid hx1
    clear hx1 hb1 HC0
    go_wp2_with fail
    go_ret
    exact ⟨ret_int (by rw [purse_no (by have := HBK.out; omega)]), hbw1⟩
  case pos =>
    rw [purse_ok hp0] at hc0
    have HC0 := hid hc0
    have HBK := hid hbk
    have HX0 := hid ((Boxes.nil w).alloc #[.bool dn, .int .i64 ctk, .int .i64 ctv, .slice actds ctds.length cctds, .slice actks ctks.length cctks, .slice aces ces.length cces] 118 (0, 0))
    have hbw0 : Below w.heap.size w (w.alloc (.cells #[.bool dn, .int .i64 ctk, .int .i64 ctv, .slice actds ctds.length cctds, .slice actks ctks.length cctks, .slice aces ces.length cces] 118)) := (Below.refl _ _).alloc (Nat.le_refl _) _
    have HBW := hid hbw0
    clear hr hbk hbw0 hc0 hctds hctks hces
    go_enter Try.func84, Try.ntmps84
    go_wp2_with fail
    refine (HC0.out _ HBW.out).mono ?_
    rintro e w1 ⟨rfl, hb1⟩
    have hbw1 := HBW.out.trans (hb1.mono (by simp))
    have hx1 := HX0.out.below hb1
    have HX1 := hid hx1
    clear hx1 hb1 HC0
    go_wp2_with fail
    go_ret
    exact ⟨ret_int (by rw [purse_ok (by have := HBK.out; omega)]; have := HBK.out; omega), hbw1⟩

theorem szThs (ts : List Th) (a : Option Addr) (c : Nat) (left : Int) (w : World) (hr : RdL w (Th.ds ts) (.slice a ts.length c)) (h0 : 0 ≤ left) (h1 : left ≤ 1048576) :
    Calls Try.prog 54 #[.slice a ts.length c, .int .i64 left] w fun e w' => e = .returned (.int .i64 (purse left (Th.bulks ts))) ∧ Below w.heap.size w w' := by
  obtain ⟨_, _, e, h2, h3, h4⟩ := hr.eTh
  simp only [Value.slice.injEq, true_and] at e
  obtain ⟨rfl, rfl⟩ := e
  have hl := Th.bulks_length ts
  skip
  have H4 := hid h4
  clear hr h4 
  by_cases hs : left < ts.length
  · rw [purse_no (by omega)]
    go_enter Try.func54, Try.ntmps54
    go_wp2_with fail
    go_ret
    exact ⟨rfl, Below.refl _ _⟩
  · have hd0 : decide (left - (ts.length : Int) < 0) = false := by simp; omega
    go_enter Try.func54, Try.ntmps54
    go_wp2_with fail
    go_loopw [1, 5] (fun l i wr => ∃ (j : Nat) (L : Int), j ≤ ts.length ∧ i = .int .i64 j ∧ l = .int .i64 L ∧ Hid (L + (Th.bulks (ts.take j) + ts.length : Nat) = left + j) ∧ 0 ≤ L ∧ L ≤ 1048576 ∧ Below w.heap.size w wr) (fun _ i _ => ts.length - (intOf i).toNat)
    case atStart => exact ⟨0, left - ts.length, by omega, rfl, rfl, by show _ = _; simp [Th.bulks], by omega, by omega, Below.refl _ _⟩
    case round =>
      obtain ⟨j, L, hj, rfl, rfl, HL, hL0, hL1, hb⟩ := hrel
      by_cases hlt : j < ts.length
      · obtain ⟨b, o, rfl, hbl, hall⟩ := H4.out (by omega)
        obtain ⟨t, ht⟩ : ∃ t, ts[j]? = some t := ⟨_, List.getElem?_eq_getElem hlt⟩
        obtain ⟨dn1, ⟨⟨ctk1, ctv1, ctds1, ctks1⟩, ces1⟩⟩ := t
        obtain ⟨actds1, cctds1, actks1, cctks1, aces1, cces1, q0, q1, q2, q3, q4, q5, hrk⟩ := hall j dn1 ctk1 ctv1 ctds1 ctks1 ces1 ht
        clear hall H4
        have d0 := (hb.cell (p := ⟨b, o + j * 6, none⟩) hbl).trans q0
        have d1 := (hb.cell (p := ⟨b, o + j * 6 + 1, none⟩) hbl).trans q1
        have d2 := (hb.cell (p := ⟨b, o + j * 6 + 2, none⟩) hbl).trans q2
        have d3 := (hb.cell (p := ⟨b, o + j * 6 + 3, none⟩) hbl).trans q3
        have d4 := (hb.cell (p := ⟨b, o + j * 6 + 4, none⟩) hbl).trans q4
        have d5 := (hb.cell (p := ⟨b, o + j * 6 + 5, none⟩) hbl).trans q5
        have HT := hid ht
        have hc := szTh dn1 ctk1 ctv1 ctds1 ctks1 ces1 actds1 cctds1 actks1 cctks1 aces1 cces1 L wr (hrk.below hb) hL0 hL1
        have hst := Th.bulks_take ts j _ ht
        have hle := Th.bulks_le ts (j + 1)
        by_cases hp : ((Th.bulk (Th.mk dn1 (Cl.mk (Co.mk ctk1 ctv1 ctds1 ctks1) ces1)) : Nat) : Int) ≤ L
        · rw [purse_ok hp] at hc
          have HC := hid hc
          have HS := hid hst
          clear ht hrk q0 q1 q2 q3 q4 q5 hc hst
          go_wp2_with fail
          refine HC.out.mono ?_
          clear HC
          rintro e w1 ⟨rfl, hb1⟩
          go_wp2_with fail
          go_roundw
          case rel => exact ⟨j + 1, _, by omega, by go_num, rfl, by show _ = _; have := HL.out; have := HS.out; omega, by omega, by omega, hb.trans (hb1.mono hb.size)⟩
          case measure => simp [intOf]; omega
        · rw [purse_no hp] at hc
          have HC := hid hc
          have HS := hid hst
          clear ht hrk q0 q1 q2 q3 q4 q5 hc hst
          go_wp2_with fail
          refine HC.out.mono ?_
          clear HC
          rintro e w1 ⟨rfl, hb1⟩
          go_wp2_with fail
          go_ret
          exact ⟨ret_int (by rw [purse_no (by have := HL.out; have := HS.out; omega)]), hb.trans (hb1.mono hb.size)⟩
      · obtain rfl : j = ts.length := by omega
        rw [List.take_length] at HL
        go_wp2_with fail
        go_ret
        exact ⟨ret_int (by rw [purse_ok (by have := HL.out; omega)]; have := HL.out; omega), hb⟩

end Go.Proofs.Ytlbebnmhldolnaa
