/- Walks of the laws' helpers: the comparison of two copies of one Need. No condition. -/
import Derived.Test.YtejdbmeoaekhcaaSzNe
import Derived.Test.YtejdbmeoaekhcaaEqCl
import Derived.Test.YtejdbmeoaekhcaaEqFr
import Derived.Test.YtejdbmeoaekhcaaEqTh
import Derived.Test.YtejdbmeoaekhcaaEqSc
namespace Go.Proofs.Ytejdbmeoaekhcaa
open Go.ChangeShapes Go.WideShapes Go.ChangeAt Go.RowKit
open Go.Sort (grow)
set_option linter.unusedVariables false

abbrev EqNe : Prop := ∀ (ctk : Int) (ctv : Int) (ctds : List Int) (ctks : List Co) (ces : List Int) (ss : List Fr) (hs : List Th) (actds : Option Addr) (cctds : Nat) (actks : Option Addr) (cctks : Nat) (aces : Option Addr) (cces : Nat) (ass : Option Addr) (css : Nat) (ahs : Option Addr) (chs : Nat) (actds' : Option Addr) (cctds' : Nat) (actks' : Option Addr) (cctks' : Nat) (aces' : Option Addr) (cces' : Nat) (ass' : Option Addr) (css' : Nat) (ahs' : Option Addr) (chs' : Nat) (w : World), RdS w (Ne.d (Ne.mk (Cl.mk (Co.mk ctk ctv ctds ctks) ces) ss hs)) [.int .i64 ctk, .int .i64 ctv, .slice actds ctds.length cctds, .slice actks ctks.length cctks, .slice aces ces.length cces, .slice ass ss.length css, .slice ahs hs.length chs] → RdS w (Ne.d (Ne.mk (Cl.mk (Co.mk ctk ctv ctds ctks) ces) ss hs)) [.int .i64 ctk, .int .i64 ctv, .slice actds' ctds.length cctds', .slice actks' ctks.length cctks', .slice aces' ces.length cces', .slice ass' ss.length css', .slice ahs' hs.length chs'] →
  Calls Try.prog 15 #[.agg #[.int .i64 ctk, .int .i64 ctv, .slice actds ctds.length cctds, .slice actks ctks.length cctks, .slice aces ces.length cces, .slice ass ss.length css, .slice ahs hs.length chs], .agg #[.int .i64 ctk, .int .i64 ctv, .slice actds' ctds.length cctds', .slice actks' ctks.length cctks', .slice aces' ces.length cces', .slice ass' ss.length css', .slice ahs' hs.length chs']] w fun e w' => e = .returned (.bool true) ∧ Below w.heap.size w w'
theorem eqNe : EqNe := by
  intro ctk ctv ctds ctks ces ss hs actds cctds actks cctks aces cces ass css ahs chs actds' cctds' actks' cctks' aces' cces' ass' css' ahs' chs' w hr hr'
  have hbk : Ne.bulk (Ne.mk (Cl.mk (Co.mk ctk ctv ctds ctks) ces) ss hs) = Cl.bulk (Cl.mk (Co.mk ctk ctv ctds ctks) ces) + Fr.bulks ss + Th.bulks hs := rfl
  obtain ⟨⟨⟨⟨loctk, hictk⟩, ⟨loctv, hictv⟩, hctds, hctks⟩, hces⟩, hss, hhs⟩ := hr.fNe
  obtain ⟨⟨⟨⟨loctk', hictk'⟩, ⟨loctv', hictv'⟩, hctds', hctks'⟩, hces'⟩, hss', hhs'⟩ := hr'.fNe
  have hc1 := fun (W : World) (hb : Below w.heap.size w W) => eqCl ctk ctv ctds ctks ces actds cctds actks cctks aces cces actds' cctds' actks' cctks' aces' cces' W ((RdS.subNe_c hr).below hb) ((RdS.subNe_c hr').below hb)
  have hc2 := fun (W : World) (hb : Below w.heap.size w W) => eqFrs ss ass ass' css css' W (hss.below hb) (hss'.below hb)
  have hc3 := fun (W : World) (hb : Below w.heap.size w W) => eqThs hs ahs ahs' chs chs' W (hhs.below hb) (hhs'.below hb)
  have HC1 := hid hc1
  have HC2 := hid hc2
  have HC3 := hid hc3
  have HX0 := hid (((Boxes.nil w).alloc #[.int .i64 ctk, .int .i64 ctv, .slice actds ctds.length cctds, .slice actks ctks.length cctks, .slice aces ces.length cces, .slice ass ss.length css, .slice ahs hs.length chs] 46 (0, 0)).alloc #[.int .i64 ctk, .int .i64 ctv, .slice actds' ctds.length cctds', .slice actks' ctks.length cctks', .slice aces' ces.length cces', .slice ass' ss.length css', .slice ahs' hs.length chs'] 46 (0, 0))
  have HB0 := hid (((Below.refl w.heap.size w).alloc (Nat.le_refl _) (.cells #[.int .i64 ctk, .int .i64 ctv, .slice actds ctds.length cctds, .slice actks ctks.length cctks, .slice aces ces.length cces, .slice ass ss.length css, .slice ahs hs.length chs] 46)).alloc (by simp) (.cells #[.int .i64 ctk, .int .i64 ctv, .slice actds' ctds.length cctds', .slice actks' ctks.length cctks', .slice aces' ces.length cces', .slice ass' ss.length css', .slice ahs' hs.length chs'] 46))
  clear hr hr' hbk hc1 hc2 hc3 hctds hctds' hctks hctks' hces hces' hss hss' hhs hhs'
  go_enter Try.func15, Try.ntmps15
  go_wp2_with fail
  refine (HC1.out _ HB0.out).mono ?_
  rintro e w1 ⟨rfl, hb1⟩
  have hbw1 := HB0.out.trans (hb1.mono (by simp; omega))
  have hx1 := HX0.out.below hb1
  have g1_5 := hx1.at 1 5 rfl rfl
  have k1_5 := hx1.at 0 5 rfl rfl
  have g1_6 := hx1.at 1 6 rfl rfl
  have k1_6 := hx1.at 0 6 rfl rfl
  simp only [World.size_alloc] at k1_5 k1_6
  have HX1 := hid hx1
  clear hx1 hb1 HC1
  go_wp2_with fail
  refine (HC2.out _ hbw1).mono ?_
  rintro e w2 ⟨rfl, hb2⟩
  have hbw2 := hbw1.trans (hb2.mono (by exact hbw1.size))
  have hx2 := HX1.out.below hb2
  have g2_6 := hx2.at 1 6 rfl rfl
  have k2_6 := hx2.at 0 6 rfl rfl
  simp only [World.size_alloc] at k2_6
  have HX2 := hid hx2
  clear hx2 hb2 HC2
  go_wp2_with fail
  refine (HC3.out _ hbw2).mono ?_
  rintro e w3 ⟨rfl, hb3⟩
  have hbw3 := hbw2.trans (hb3.mono (by exact hbw2.size))
  have hx3 := HX2.out.below hb3
  have HX3 := hid hx3
  clear hx3 hb3 HC3
  go_wp2_with fail
  go_ret
  exact ⟨rfl, hbw3⟩

end Go.Proofs.Ytejdbmeoaekhcaa
