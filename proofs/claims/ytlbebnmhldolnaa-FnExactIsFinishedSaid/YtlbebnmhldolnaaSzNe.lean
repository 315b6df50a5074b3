/- Walks of the laws' helpers: the size of Need. No condition. -/
import Derived.Test.YtlbebnmhldolnaaDNe
import Derived.Test.YtlbebnmhldolnaaSzCl
import Derived.Test.YtlbebnmhldolnaaSzFr
import Derived.Test.YtlbebnmhldolnaaSzTh
import Derived.Test.YtlbebnmhldolnaaSzSc
import Derived.Lib.QuietBelow
namespace Go.Proofs.Ytlbebnmhldolnaa
open Go.ChangeShapes Go.WideShapes Go.ChangeAt Go.RowKit
open Go.Sort (grow)
set_option linter.unusedVariables false

theorem RdS.subNe_c {w : World} {ctk : Int} {ctv : Int} {ctds : List Int} {ctks : List Co} {ces : List Int} {ss : List Fr} {hs : List Th} {actds : Option Addr} {cctds : Nat} {actks : Option Addr} {cctks : Nat} {aces : Option Addr} {cces : Nat} {ass : Option Addr} {css : Nat} {ahs : Option Addr} {chs : Nat} (h : RdS w (Ne.d (Ne.mk (Cl.mk (Co.mk ctk ctv ctds ctks) ces) ss hs)) [.int .i64 ctk, .int .i64 ctv, .slice actds ctds.length cctds, .slice actks ctks.length cctks, .slice aces ces.length cces, .slice ass ss.length css, .slice ahs hs.length chs]) : RdS w (Cl.d (Cl.mk (Co.mk ctk ctv ctds ctks) ces)) [.int .i64 ctk, .int .i64 ctv, .slice actds ctds.length cctds, .slice actks ctks.length cctks, .slice aces ces.length cces] := by
  obtain ⟨F, h⟩ := h
  obtain ⟨e1, r1, F1, G1, x1, rfl, g1, k1⟩ := h.struct_inv.cons_inv
  have l1 := g1.length
  refine ⟨F1, ?_⟩
  rw [Cl.d_len] at l1
  match e1, l1 with
  | [y1_0, y1_1, y1_2, y1_3, y1_4], _ =>
  simp only [List.cons_append, List.nil_append, List.cons.injEq] at x1
  obtain ⟨rfl, rfl, rfl, rfl, rfl, x1'⟩ := x1
  exact g1
abbrev SzNe : Prop := ∀ (ctk : Int) (ctv : Int) (ctds : List Int) (ctks : List Co) (ces : List Int) (ss : List Fr) (hs : List Th) (actds : Option Addr) (cctds : Nat) (actks : Option Addr) (cctks : Nat) (aces : Option Addr) (cces : Nat) (ass : Option Addr) (css : Nat) (ahs : Option Addr) (chs : Nat) (left : Int) (w : World), RdS w (Ne.d (Ne.mk (Cl.mk (Co.mk ctk ctv ctds ctks) ces) ss hs)) [.int .i64 ctk, .int .i64 ctv, .slice actds ctds.length cctds, .slice actks ctks.length cctks, .slice aces ces.length cces, .slice ass ss.length css, .slice ahs hs.length chs] → 0 ≤ left → left ≤ 1048576 →
  Calls Try.prog 22 #[.agg #[.int .i64 ctk, .int .i64 ctv, .slice actds ctds.length cctds, .slice actks ctks.length cctks, .slice aces ces.length cces, .slice ass ss.length css, .slice ahs hs.length chs], .int .i64 left] w fun e w' => e = .returned (.int .i64 (purse left (Ne.bulk (Ne.mk (Cl.mk (Co.mk ctk ctv ctds ctks) ces) ss hs)))) ∧ Below w.heap.size w w'
theorem szNe : SzNe := by
  intro ctk ctv ctds ctks ces ss hs actds cctds actks cctks aces cces ass css ahs chs left w hr h0 h1
  have hbk : Ne.bulk (Ne.mk (Cl.mk (Co.mk ctk ctv ctds ctks) ces) ss hs) = Cl.bulk (Cl.mk (Co.mk ctk ctv ctds ctks) ces) + Fr.bulks ss + Th.bulks hs := rfl
  obtain ⟨⟨⟨⟨loctk, hictk⟩, ⟨loctv, hictv⟩, hctds, hctks⟩, hces⟩, hss, hhs⟩ := hr.fNe
  have hc0 := fun (W : World) (hb : Below w.heap.size w W) => (szCl ctk ctv ctds ctks ces actds cctds actks cctks aces cces (left) W ((RdS.subNe_c hr).below hb) (by omega) (by omega))
  by_cases hp0 : ((Cl.bulk (Cl.mk (Co.mk ctk ctv ctds ctks) ces) : Nat) : Int) ≤ left
  case neg =>
    rw [purse_no hp0] at hc0
    have HC0 := hid hc0
    have HBK := hid hbk
    have HX0 := hid ((Boxes.nil w).alloc #[.int .i64 ctk, .int .i64 ctv, .slice actds ctds.length cctds, .slice actks ctks.length cctks, .slice aces ces.length cces, .slice ass ss.length css, .slice ahs hs.length chs] 60 (0, 0))
    have hbw0 : Below w.heap.size w (w.alloc (.cells #[.int .i64 ctk, .int .i64 ctv, .slice actds ctds.length cctds, .slice actks ctks.length cctks, .slice aces ces.length cces, .slice ass ss.length css, .slice ahs hs.length chs] 60)) := (Below.refl _ _).alloc (Nat.le_refl _) _
    have HBW := hid hbw0
    clear hr hbk hbw0 hc0 hctds hctks hces hss hhs
    go_enter Try.func22, Try.ntmps22
    go_wp2_with fail
    refine (HC0.out _ HBW.out).mono ?_
    rintro e w1 ⟨rfl, hb1⟩
    have hbw1 := HBW.out.trans (hb1.mono (by simp))
    have hx1 := HX0.out.below hb1
    have HX1 := hid hx1
    clear hx1 hb1 HC0
    go_wp2_with fail
    go_ret
    exact ⟨ret_int (by rw [purse_no (by have := HBK.out; omega)]), hbw1⟩
  case pos =>
    rw [purse_ok hp0] at hc0
    have hc1 := fun (W : World) (hb : Below w.heap.size w W) => (szFrs ss ass css (left - (Cl.bulk (Cl.mk (Co.mk ctk ctv ctds ctks) ces) : Nat)) W (hss.below hb) (by omega) (by omega))
    by_cases hp1 : ((Fr.bulks ss : Nat) : Int) ≤ left - (Cl.bulk (Cl.mk (Co.mk ctk ctv ctds ctks) ces) : Nat)
    case neg =>
      rw [purse_no hp1] at hc1
      have HC0 := hid hc0
      have HC1 := hid hc1
      have HBK := hid hbk
      have HX0 := hid ((Boxes.nil w).alloc #[.int .i64 ctk, .int .i64 ctv, .slice actds ctds.length cctds, .slice actks ctks.length cctks, .slice aces ces.length cces, .slice ass ss.length css, .slice ahs hs.length chs] 60 (0, 0))
      have hbw0 : Below w.heap.size w (w.alloc (.cells #[.int .i64 ctk, .int .i64 ctv, .slice actds ctds.length cctds, .slice actks ctks.length cctks, .slice aces ces.length cces, .slice ass ss.length css, .slice ahs hs.length chs] 60)) := (Below.refl _ _).alloc (Nat.le_refl _) _
      have HBW := hid hbw0
      clear hr hbk hbw0 hc0 hc1 hctds hctks hces hss hhs
      go_enter Try.func22, Try.ntmps22
      go_wp2_with fail
      refine (HC0.out _ HBW.out).mono ?_
      rintro e w1 ⟨rfl, hb1⟩
      have hbw1 := HBW.out.trans (hb1.mono (by simp))
      have hx1 := HX0.out.below hb1
      have g1_5 := hx1.at 0 5 rfl rfl
      have HX1 := hid hx1
      clear hx1 hb1 HC0
      go_wp2_with fail
      refine (HC1.out _ hbw1).mono ?_
      rintro e w2 ⟨rfl, hb2⟩
      have hbw2 := hbw1.trans (hb2.mono hbw1.size)
      have hx2 := HX1.out.below hb2
      have HX2 := hid hx2
      clear hx2 hb2 HC1
      go_wp2_with fail
      go_ret
      exact ⟨ret_int (by rw [purse_no (by have := HBK.out; omega)]), hbw2⟩
    case pos =>
      rw [purse_ok hp1] at hc1
      have hc2 := fun (W : World) (hb : Below w.heap.size w W) => (szThs hs ahs chs (left - (Cl.bulk (Cl.mk (Co.mk ctk ctv ctds ctks) ces) : Nat) - (Fr.bulks ss : Nat)) W (hhs.below hb) (by omega) (by omega))
      by_cases hp2 : ((Th.bulks hs : Nat) : Int) ≤ left - (Cl.bulk (Cl.mk (Co.mk ctk ctv ctds ctks) ces) : Nat) - (Fr.bulks ss : Nat)
      case neg =>
        rw [purse_no hp2] at hc2
        have HC0 := hid hc0
        have HC1 := hid hc1
        have HC2 := hid hc2
        have HBK := hid hbk
        have HX0 := hid ((Boxes.nil w).alloc #[.int .i64 ctk, .int .i64 ctv, .slice actds ctds.length cctds, .slice actks ctks.length cctks, .slice aces ces.length cces, .slice ass ss.length css, .slice ahs hs.length chs] 60 (0, 0))
        have hbw0 : Below w.heap.size w (w.alloc (.cells #[.int .i64 ctk, .int .i64 ctv, .slice actds ctds.length cctds, .slice actks ctks.length cctks, .slice aces ces.length cces, .slice ass ss.length css, .slice ahs hs.length chs] 60)) := (Below.refl _ _).alloc (Nat.le_refl _) _
        have HBW := hid hbw0
        clear hr hbk hbw0 hc0 hc1 hc2 hctds hctks hces hss hhs
        go_enter Try.func22, Try.ntmps22
        go_wp2_with fail
        refine (HC0.out _ HBW.out).mono ?_
        rintro e w1 ⟨rfl, hb1⟩
        have hbw1 := HBW.out.trans (hb1.mono (by simp))
        have hx1 := HX0.out.below hb1
        have g1_5 := hx1.at 0 5 rfl rfl
        have g1_6 := hx1.at 0 6 rfl rfl
        have HX1 := hid hx1
        clear hx1 hb1 HC0
        go_wp2_with fail
        refine (HC1.out _ hbw1).mono ?_
        rintro e w2 ⟨rfl, hb2⟩
        have hbw2 := hbw1.trans (hb2.mono hbw1.size)
        have hx2 := HX1.out.below hb2
        have g2_6 := hx2.at 0 6 rfl rfl
        have HX2 := hid hx2
        clear hx2 hb2 HC1
        go_wp2_with fail
        refine (HC2.out _ hbw2).mono ?_
        rintro e w3 ⟨rfl, hb3⟩
        have hbw3 := hbw2.trans (hb3.mono hbw2.size)
        have hx3 := HX2.out.below hb3
        have HX3 := hid hx3
        clear hx3 hb3 HC2
        go_wp2_with fail
        go_ret
        exact ⟨ret_int (by rw [purse_no (by have := HBK.out; omega)]), hbw3⟩
      case pos =>
        rw [purse_ok hp2] at hc2
        have HC0 := hid hc0
        have HC1 := hid hc1
        have HC2 := hid hc2
        have HBK := hid hbk
        have HX0 := hid ((Boxes.nil w).alloc #[.int .i64 ctk, .int .i64 ctv, .slice actds ctds.length cctds, .slice actks ctks.length cctks, .slice aces ces.length cces, .slice ass ss.length css, .slice ahs hs.length chs] 60 (0, 0))
        have hbw0 : Below w.heap.size w (w.alloc (.cells #[.int .i64 ctk, .int .i64 ctv, .slice actds ctds.length cctds, .slice actks ctks.length cctks, .slice aces ces.length cces, .slice ass ss.length css, .slice ahs hs.length chs] 60)) := (Below.refl _ _).alloc (Nat.le_refl _) _
        have HBW := hid hbw0
        clear hr hbk hbw0 hc0 hc1 hc2 hctds hctks hces hss hhs
        go_enter Try.func22, Try.ntmps22
        go_wp2_with fail
        refine (HC0.out _ HBW.out).mono ?_
        rintro e w1 ⟨rfl, hb1⟩
        have hbw1 := HBW.out.trans (hb1.mono (by simp))
        have hx1 := HX0.out.below hb1
        have g1_5 := hx1.at 0 5 rfl rfl
        have g1_6 := hx1.at 0 6 rfl rfl
        have HX1 := hid hx1
        clear hx1 hb1 HC0
        go_wp2_with fail
        refine (HC1.out _ hbw1).mono ?_
        rintro e w2 ⟨rfl, hb2⟩
        have hbw2 := hbw1.trans (hb2.mono hbw1.size)
        have hx2 := HX1.out.below hb2
        have g2_6 := hx2.at 0 6 rfl rfl
        have HX2 := hid hx2
        clear hx2 hb2 HC1
        go_wp2_with fail
        refine (HC2.out _ hbw2).mono ?_
        rintro e w3 ⟨rfl, hb3⟩
        have hbw3 := hbw2.trans (hb3.mono hbw2.size)
        have hx3 := HX2.out.below hb3
        have HX3 := hid hx3
        clear hx3 hb3 HC2
        go_wp2_with fail
        go_ret
        exact ⟨ret_int (by rw [purse_ok (by have := HBK.out; omega)]; have := HBK.out; omega), hbw3⟩

end Go.Proofs.Ytlbebnmhldolnaa
