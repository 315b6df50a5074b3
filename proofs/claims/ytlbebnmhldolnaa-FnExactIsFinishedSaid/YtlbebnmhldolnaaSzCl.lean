/- Walks of the laws' helpers: the size of Closure. No condition. -/
import Derived.Test.YtlbebnmhldolnaaDCl
import Derived.Test.YtlbebnmhldolnaaSzCo
import Derived.Test.YtlbebnmhldolnaaSzSc
import Derived.Lib.QuietBelow
namespace Go.Proofs.Ytlbebnmhldolnaa
open Go.ChangeShapes Go.WideShapes Go.ChangeAt Go.RowKit
open Go.Sort (grow)
set_option linter.unusedVariables false

theorem RdS.subCl_t {w : World} {tk : Int} {tv : Int} {tds : List Int} {tks : List Co} {es : List Int} {atds : Option Addr} {ctds : Nat} {atks : Option Addr} {ctks : Nat} {aes : Option Addr} {ces : Nat} (h : RdS w (Cl.d (Cl.mk (Co.mk tk tv tds tks) es)) [.int .i64 tk, .int .i64 tv, .slice atds tds.length ctds, .slice atks tks.length ctks, .slice aes es.length ces]) : RdS w (Co.d (Co.mk tk tv tds tks)) [.int .i64 tk, .int .i64 tv, .slice atds tds.length ctds, .slice atks tks.length ctks] := by
  obtain ⟨F, h⟩ := h
  obtain ⟨e1, r1, F1, G1, x1, rfl, g1, k1⟩ := h.struct_inv.cons_inv
  have l1 := g1.length
  refine ⟨F1, ?_⟩
  rw [Co.d_len] at l1
  match e1, l1 with
  | [y1_0, y1_1, y1_2, y1_3], _ =>
  simp only [List.cons_append, List.nil_append, List.cons.injEq] at x1
  obtain ⟨rfl, rfl, rfl, rfl, x1'⟩ := x1
  exact g1
abbrev SzCl : Prop := ∀ (tk : Int) (tv : Int) (tds : List Int) (tks : List Co) (es : List Int) (atds : Option Addr) (ctds : Nat) (atks : Option Addr) (ctks : Nat) (aes : Option Addr) (ces : Nat) (left : Int) (w : World), RdS w (Cl.d (Cl.mk (Co.mk tk tv tds tks) es)) [.int .i64 tk, .int .i64 tv, .slice atds tds.length ctds, .slice atks tks.length ctks, .slice aes es.length ces] → 0 ≤ left → left ≤ 1048576 →
  Calls Try.prog 52 #[.agg #[.int .i64 tk, .int .i64 tv, .slice atds tds.length ctds, .slice atks tks.length ctks, .slice aes es.length ces], .int .i64 left] w fun e w' => e = .returned (.int .i64 (purse left (Cl.bulk (Cl.mk (Co.mk tk tv tds tks) es)))) ∧ Below w.heap.size w w'
theorem szCl : SzCl := by
  intro tk tv tds tks es atds ctds atks ctks aes ces left w hr h0 h1
  have hbk : Cl.bulk (Cl.mk (Co.mk tk tv tds tks) es) = Co.bulk (Co.mk tk tv tds tks) + In.bulks es := rfl
  obtain ⟨⟨⟨lotk, hitk⟩, ⟨lotv, hitv⟩, htds, htks⟩, hes⟩ := hr.fCl
  have hc0 := fun (W : World) (hb : Below w.heap.size w W) => (szCo tk tv tds tks atds ctds atks ctks (left) W ((RdS.subCl_t hr).below hb) (by omega) (by omega))
  by_cases hp0 : ((Co.bulk (Co.mk tk tv tds tks) : Nat) : Int) ≤ left
  case neg =>
    rw [purse_no hp0] at hc0
    have HC0 := hid hc0
    have HBK := hid hbk
    have HX0 := hid ((Boxes.nil w).alloc #[.int .i64 tk, .int .i64 tv, .slice atds tds.length ctds, .slice atks tks.length ctks, .slice aes es.length ces] 56 (0, 0))
    have hbw0 : Below w.heap.size w (w.alloc (.cells #[.int .i64 tk, .int .i64 tv, .slice atds tds.length ctds, .slice atks tks.length ctks, .slice aes es.length ces] 56)) := (Below.refl _ _).alloc (Nat.le_refl _) _
    have HBW := hid hbw0
    clear hr hbk hbw0 hc0 htds htks hes
    go_enter Try.func52, Try.ntmps52
    go_wp2_with fail
    refine (HC0.out _ HBW.out).mono ?_
    rintro e w1 ⟨rfl, hb1⟩
    have hbw1 := HBW.out.trans (hb1.mono (by simp))
    have hx1 := HX0.out.below hb1
    have HX1 := hid hx1
    clear hx1 hb1 HC0
    go_wp2_with fail
    go_ret
    exact ⟨ret_int (by rw [purse_no (by have := HBK.out; omega)]), hbw1⟩
  case pos =>
    rw [purse_ok hp0] at hc0
    have hc1 := fun (W : World) (hb : Below w.heap.size w W) => (szIns es aes ces (left - (Co.bulk (Co.mk tk tv tds tks) : Nat)) W (hes.below hb) (by omega) (by omega))
    by_cases hp1 : ((In.bulks es : Nat) : Int) ≤ left - (Co.bulk (Co.mk tk tv tds tks) : Nat)
    case neg =>
      rw [purse_no hp1] at hc1
      have HC0 := hid hc0
      have HC1 := hid hc1
      have HBK := hid hbk
      have HX0 := hid ((Boxes.nil w).alloc #[.int .i64 tk, .int .i64 tv, .slice atds tds.length ctds, .slice atks tks.length ctks, .slice aes es.length ces] 56 (0, 0))
      have hbw0 : Below w.heap.size w (w.alloc (.cells #[.int .i64 tk, .int .i64 tv, .slice atds tds.length ctds, .slice atks tks.length ctks, .slice aes es.length ces] 56)) := (Below.refl _ _).alloc (Nat.le_refl _) _
      have HBW := hid hbw0
      clear hr hbk hbw0 hc0 hc1 htds htks hes
      go_enter Try.func52, Try.ntmps52
      go_wp2_with fail
      refine (HC0.out _ HBW.out).mono ?_
      rintro e w1 ⟨rfl, hb1⟩
      have hbw1 := HBW.out.trans (hb1.mono (by simp))
      have hx1 := HX0.out.below hb1
      have g1_4 := hx1.at 0 4 rfl rfl
      have HX1 := hid hx1
      clear hx1 hb1 HC0
      go_wp2_with fail
      refine (HC1.out _ hbw1).mono ?_
      rintro e w2 ⟨rfl, hb2⟩
      have hbw2 := hbw1.trans (hb2.mono hbw1.size)
      have hx2 := HX1.out.below hb2
      have HX2 := hid hx2
      clear hx2 hb2 HC1
      go_wp2_with fail
      go_ret
      exact ⟨ret_int (by rw [purse_no (by have := HBK.out; omega)]), hbw2⟩
    case pos =>
      rw [purse_ok hp1] at hc1
      have HC0 := hid hc0
      have HC1 := hid hc1
      have HBK := hid hbk
      have HX0 := hid ((Boxes.nil w).alloc #[.int .i64 tk, .int .i64 tv, .slice atds tds.length ctds, .slice atks tks.length ctks, .slice aes es.length ces] 56 (0, 0))
      have hbw0 : Below w.heap.size w (w.alloc (.cells #[.int .i64 tk, .int .i64 tv, .slice atds tds.length ctds, .slice atks tks.length ctks, .slice aes es.length ces] 56)) := (Below.refl _ _).alloc (Nat.le_refl _) _
      have HBW := hid hbw0
      clear hr hbk hbw0 hc0 hc1 htds htks hes
      go_enter Try.func52, Try.ntmps52
      go_wp2_with fail
      refine (HC0.out _ HBW.out).mono ?_
      rintro e w1 ⟨rfl, hb1⟩
      have hbw1 := HBW.out.trans (hb1.mono (by simp))
      have hx1 := HX0.out.below hb1
      have g1_4 := hx1.at 0 4 rfl rfl
      have HX1 := hid hx1
      clear hx1 hb1 HC0
      go_wp2_with fail
      refine (HC1.out _ hbw1).mono ?_
      rintro e w2 ⟨rfl, hb2⟩
      have hbw2 := hbw1.trans (hb2.mono hbw1.size)
      have hx2 := HX1.out.below hb2
      have HX2 := hid hx2
      clear hx2 hb2 HC1
      go_wp2_with fail
      go_ret
      exact ⟨ret_int (by rw [purse_ok (by have := HBK.out; omega)]; have := HBK.out; omega), hbw2⟩

end Go.Proofs.Ytlbebnmhldolnaa
