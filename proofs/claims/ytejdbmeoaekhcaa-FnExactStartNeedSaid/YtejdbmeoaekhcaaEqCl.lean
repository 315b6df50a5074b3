/- Walks of the laws' helpers: the comparison of two copies of one Closure. No condition. -/
import Derived.Test.YtejdbmeoaekhcaaSzCl
import Derived.Test.YtejdbmeoaekhcaaEqCo
import Derived.Test.YtejdbmeoaekhcaaEqSc
namespace Go.Proofs.Ytejdbmeoaekhcaa
open Go.ChangeShapes Go.WideShapes Go.ChangeAt Go.RowKit
open Go.Sort (grow)
set_option linter.unusedVariables false

abbrev EqCl : Prop := ∀ (tk : Int) (tv : Int) (tds : List Int) (tks : List Co) (es : List Int) (atds : Option Addr) (ctds : Nat) (atks : Option Addr) (ctks : Nat) (aes : Option Addr) (ces : Nat) (atds' : Option Addr) (ctds' : Nat) (atks' : Option Addr) (ctks' : Nat) (aes' : Option Addr) (ces' : Nat) (w : World), RdS w (Cl.d (Cl.mk (Co.mk tk tv tds tks) es)) [.int .i64 tk, .int .i64 tv, .slice atds tds.length ctds, .slice atks tks.length ctks, .slice aes es.length ces] → RdS w (Cl.d (Cl.mk (Co.mk tk tv tds tks) es)) [.int .i64 tk, .int .i64 tv, .slice atds' tds.length ctds', .slice atks' tks.length ctks', .slice aes' es.length ces'] →
  Calls Try.prog 32 #[.agg #[.int .i64 tk, .int .i64 tv, .slice atds tds.length ctds, .slice atks tks.length ctks, .slice aes es.length ces], .agg #[.int .i64 tk, .int .i64 tv, .slice atds' tds.length ctds', .slice atks' tks.length ctks', .slice aes' es.length ces']] w fun e w' => e = .returned (.bool true) ∧ Below w.heap.size w w'
theorem eqCl : EqCl := by
  intro tk tv tds tks es atds ctds atks ctks aes ces atds' ctds' atks' ctks' aes' ces' w hr hr'
  have hbk : Cl.bulk (Cl.mk (Co.mk tk tv tds tks) es) = Co.bulk (Co.mk tk tv tds tks) + In.bulks es := rfl
  obtain ⟨⟨⟨lotk, hitk⟩, ⟨lotv, hitv⟩, htds, htks⟩, hes⟩ := hr.fCl
  obtain ⟨⟨⟨lotk', hitk'⟩, ⟨lotv', hitv'⟩, htds', htks'⟩, hes'⟩ := hr'.fCl
  have hc1 := fun (W : World) (hb : Below w.heap.size w W) => eqCo tk tv tds tks atds ctds atks ctks atds' ctds' atks' ctks' W ((RdS.subCl_t hr).below hb) ((RdS.subCl_t hr').below hb)
  have hc2 := fun (W : World) (hb : Below w.heap.size w W) => eqIns es aes aes' ces ces' W (hes.below hb) (hes'.below hb)
  have HC1 := hid hc1
  have HC2 := hid hc2
  have HX0 := hid (((Boxes.nil w).alloc #[.int .i64 tk, .int .i64 tv, .slice atds tds.length ctds, .slice atks tks.length ctks, .slice aes es.length ces] 42 (0, 0)).alloc #[.int .i64 tk, .int .i64 tv, .slice atds' tds.length ctds', .slice atks' tks.length ctks', .slice aes' es.length ces'] 42 (0, 0))
  have HB0 := hid (((Below.refl w.heap.size w).alloc (Nat.le_refl _) (.cells #[.int .i64 tk, .int .i64 tv, .slice atds tds.length ctds, .slice atks tks.length ctks, .slice aes es.length ces] 42)).alloc (by simp) (.cells #[.int .i64 tk, .int .i64 tv, .slice atds' tds.length ctds', .slice atks' tks.length ctks', .slice aes' es.length ces'] 42))
  clear hr hr' hbk hc1 hc2 htds htds' htks htks' hes hes'
  go_enter Try.func32, Try.ntmps32
  go_wp2_with fail
  refine (HC1.out _ HB0.out).mono ?_
  rintro e w1 ⟨rfl, hb1⟩
  have hbw1 := HB0.out.trans (hb1.mono (by simp; omega))
  have hx1 := HX0.out.below hb1
  have g1_4 := hx1.at 1 4 rfl rfl
  have k1_4 := hx1.at 0 4 rfl rfl
  simp only [World.size_alloc] at k1_4
  have HX1 := hid hx1
  clear hx1 hb1 HC1
  go_wp2_with fail
  refine (HC2.out _ hbw1).mono ?_
  rintro e w2 ⟨rfl, hb2⟩
  have hbw2 := hbw1.trans (hb2.mono (by exact hbw1.size))
  have hx2 := HX1.out.below hb2
  have HX2 := hid hx2
  clear hx2 hb2 HC2
  go_wp2_with fail
  go_ret
  exact ⟨rfl, hbw2⟩

end Go.Proofs.Ytejdbmeoaekhcaa
