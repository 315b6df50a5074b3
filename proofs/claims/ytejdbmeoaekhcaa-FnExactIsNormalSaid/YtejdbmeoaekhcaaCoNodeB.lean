/- Walks: the form of a core's node, in the program: the node itself. -/
import Derived.Test.YtejdbmeoaekhcaaCoTests
namespace Go.Proofs.Ytejdbmeoaekhcaa
open Go.ChangeShapes Go.WideShapes Go.ChangeAt Go.RowKit Go.BigFrame
open Go.Sort (grow)
set_option linter.unusedVariables false

set_option maxHeartbeats 1000000 in
theorem impl_node8 (v1 : Int) (ds1 : List Int) (ks1 : List Co) (ads1 : Option Addr) (cds1 : Nat) (aks1 : Option Addr) (cks1 : Nat) (w : World) (hl1 : ds1.length ≤ 1048576) (hl2 : ks1.length ≤ 1048576) (hr : RdL w (In.ds ds1) (.slice ads1 ds1.length cds1)) :
    Calls Try.prog 103 #[.agg #[.int .i64 8, .int .i64 v1, .slice ads1 ds1.length cds1, .slice aks1 ks1.length cks1]] w fun e w' => e = .returned (.bool (okCo 8 v1 ds1 ks1.length)) ∧ Below w.heap.size w w' := by
  have HOK := hid (show okCo 8 v1 ds1 ks1.length = (inR ks1.length (0) (3) && (inR ds1.length (0) (0) && (inR v1 0 3 && coData ds1))) from rfl)
  have HX0 := hid ((Boxes.nil w).alloc #[.int .i64 8, .int .i64 v1, .slice ads1 ds1.length cds1, .slice aks1 ks1.length cks1] 36 (0, 0))
  have HC := hid (fun W (hW : Below w.heap.size w W) => impl_AnyBad ds1 ads1 cds1 W (hr.below hW))
  have HB := hid ((Below.refl w.heap.size w).alloc (Nat.le_refl _) (.cells #[.int .i64 8, .int .i64 v1, .slice ads1 ds1.length cds1, .slice aks1 ks1.length cks1] 36))
  clear hr
  by_cases hva : 0 ≤ v1
  all_goals by_cases hvb : v1 < 4
  all_goals by_cases hd : ds1.length = 0
  all_goals by_cases hn : ks1.length ≤ 3
  all_goals
    first | (have bva : decide (0 ≤ v1) = true := by simp; omega) | (have bva : decide (0 ≤ v1) = false := by simp; omega) | (have bva : decide (0 ≤ v1) = true := by simp [hva]) | (have bva : decide (0 ≤ v1) = false := by simp [hva])
    have Hva := hid hva
    clear hva
    first | (have bvb : decide (v1 < 4) = true := by simp; omega) | (have bvb : decide (v1 < 4) = false := by simp; omega) | (have bvb : decide (v1 < 4) = true := by simp [hvb]) | (have bvb : decide (v1 < 4) = false := by simp [hvb])
    have Hvb := hid hvb
    clear hvb
    first | (have bd : ((ds1.length : Int) == 0) = true := by simp; omega) | (have bd : ((ds1.length : Int) == 0) = false := by simp; omega) | (have bd : ((ds1.length : Int) == 0) = true := by simp [hd]) | (have bd : ((ds1.length : Int) == 0) = false := by simp [hd])
    have Hd := hid hd
    clear hd
    first | (have bn : decide ((ks1.length : Int) ≤ 3) = true := by simp; omega) | (have bn : decide ((ks1.length : Int) ≤ 3) = false := by simp; omega) | (have bn : decide ((ks1.length : Int) ≤ 3) = true := by simp [hn]) | (have bn : decide ((ks1.length : Int) ≤ 3) = false := by simp [hn])
    have Hn := hid hn
    clear hn
    go_enter Try.func103, Try.ntmps103
    go_wp2_with fail
    have e0 := cell_regrown (HX0.out.at 0 0 rfl rfl)
    have e1 := cell_regrown (HX0.out.at 0 1 rfl rfl)
    have e2 := cell_regrown (HX0.out.at 0 2 rfl rfl)
    have e3 := cell_regrown (HX0.out.at 0 3 rfl rfl)
    clear HX0
    refine wp_region_quiet_below (by kernel_rfl) (by kernel_rfl) ?_
    repeat (go_big_quiet_step (fail))
    refine wpQuiet_nil ?_
    intro _ hw'
    obtain ⟨⟨dq, osq⟩, hw''⟩ := hw'
    subst hw''
    have HB := hid (HB.out.trans ((below_regrown _ dq osq).mono HB.out.size))
    replace e0 := e0 dq osq
    replace e1 := e1 dq osq
    replace e2 := e2 dq osq
    replace e3 := e3 dq osq
    generalize grow (redrawn (w.alloc (.cells #[.int .i64 8, .int .i64 v1, .slice ads1 ds1.length cds1, .slice aks1 ks1.length cks1] 36)) dq) osq = wz at HB e0 e1 e2 e3 ⊢
    go_wp2_with fail
    first
    | (refine (HC.out _ HB.out).mono ?_
       rintro e w3 ⟨rfl, hb⟩
       go_wp2_with fail
       go_ret
       refine ⟨ret_bool ?_, HB.out.trans (hb.mono HB.out.size)⟩
       rw [HOK.out]
       have hva := Hva.out
       have hvb := Hvb.out
       have hd := Hd.out
       have hn := Hn.out
       have hcd0 : ds1.length = 0 → coData ds1 = true := fun h => by rw [List.length_eq_zero_iff.1 h]; rfl
       try have hcd := hcd0 hd
       clear hcd0
       simp [inR, *]; try omega)
    | (go_ret
       refine ⟨ret_bool ?_, HB.out⟩
       rw [HOK.out]
       have hva := Hva.out
       have hvb := Hvb.out
       have hd := Hd.out
       have hn := Hn.out
       have hcd0 : ds1.length = 0 → coData ds1 = true := fun h => by rw [List.length_eq_zero_iff.1 h]; rfl
       try have hcd := hcd0 hd
       clear hcd0
       simp [inR, *]; try omega)

set_option maxHeartbeats 1000000 in
theorem impl_node9 (v1 : Int) (ds1 : List Int) (ks1 : List Co) (ads1 : Option Addr) (cds1 : Nat) (aks1 : Option Addr) (cks1 : Nat) (w : World) (hl1 : ds1.length ≤ 1048576) (hl2 : ks1.length ≤ 1048576) (hr : RdL w (In.ds ds1) (.slice ads1 ds1.length cds1)) :
    Calls Try.prog 103 #[.agg #[.int .i64 9, .int .i64 v1, .slice ads1 ds1.length cds1, .slice aks1 ks1.length cks1]] w fun e w' => e = .returned (.bool (okCo 9 v1 ds1 ks1.length)) ∧ Below w.heap.size w w' := by
  have HOK := hid (show okCo 9 v1 ds1 ks1.length = (inR ks1.length (1) (1) && (inR ds1.length (1) (4) && (decide (v1 = 0) && coData ds1))) from rfl)
  have HX0 := hid ((Boxes.nil w).alloc #[.int .i64 9, .int .i64 v1, .slice ads1 ds1.length cds1, .slice aks1 ks1.length cks1] 36 (0, 0))
  have HC := hid (fun W (hW : Below w.heap.size w W) => impl_AnyBad ds1 ads1 cds1 W (hr.below hW))
  have HB := hid ((Below.refl w.heap.size w).alloc (Nat.le_refl _) (.cells #[.int .i64 9, .int .i64 v1, .slice ads1 ds1.length cds1, .slice aks1 ks1.length cks1] 36))
  clear hr
  by_cases hv : v1 = 0
  all_goals by_cases hda : 1 ≤ ds1.length
  all_goals by_cases hdb : ds1.length ≤ 4
  all_goals by_cases hn : ks1.length = 1
  all_goals
    first | (have bv : (v1 == 0) = true := by simp; omega) | (have bv : (v1 == 0) = false := by simp; omega) | (have bv : (v1 == 0) = true := by simp [hv]) | (have bv : (v1 == 0) = false := by simp [hv])
    have Hv := hid hv
    clear hv
    first | (have bda : decide ((1 : Int) ≤ (ds1.length : Int)) = true := by simp; omega) | (have bda : decide ((1 : Int) ≤ (ds1.length : Int)) = false := by simp; omega) | (have bda : decide ((1 : Int) ≤ (ds1.length : Int)) = true := by simp [hda]) | (have bda : decide ((1 : Int) ≤ (ds1.length : Int)) = false := by simp [hda])
    have Hda := hid hda
    clear hda
    first | (have bdb : decide ((ds1.length : Int) ≤ 4) = true := by simp; omega) | (have bdb : decide ((ds1.length : Int) ≤ 4) = false := by simp; omega) | (have bdb : decide ((ds1.length : Int) ≤ 4) = true := by simp [hdb]) | (have bdb : decide ((ds1.length : Int) ≤ 4) = false := by simp [hdb])
    have Hdb := hid hdb
    clear hdb
    first | (have bn : ((ks1.length : Int) == 1) = true := by simp; omega) | (have bn : ((ks1.length : Int) == 1) = false := by simp; omega) | (have bn : ((ks1.length : Int) == 1) = true := by simp [hn]) | (have bn : ((ks1.length : Int) == 1) = false := by simp [hn])
    have Hn := hid hn
    clear hn
    go_enter Try.func103, Try.ntmps103
    go_wp2_with fail
    have e0 := cell_regrown (HX0.out.at 0 0 rfl rfl)
    have e1 := cell_regrown (HX0.out.at 0 1 rfl rfl)
    have e2 := cell_regrown (HX0.out.at 0 2 rfl rfl)
    have e3 := cell_regrown (HX0.out.at 0 3 rfl rfl)
    clear HX0
    refine wp_region_quiet_below (by kernel_rfl) (by kernel_rfl) ?_
    repeat (go_big_quiet_step (fail))
    refine wpQuiet_nil ?_
    intro _ hw'
    obtain ⟨⟨dq, osq⟩, hw''⟩ := hw'
    subst hw''
    have HB := hid (HB.out.trans ((below_regrown _ dq osq).mono HB.out.size))
    replace e0 := e0 dq osq
    replace e1 := e1 dq osq
    replace e2 := e2 dq osq
    replace e3 := e3 dq osq
    generalize grow (redrawn (w.alloc (.cells #[.int .i64 9, .int .i64 v1, .slice ads1 ds1.length cds1, .slice aks1 ks1.length cks1] 36)) dq) osq = wz at HB e0 e1 e2 e3 ⊢
    go_wp2_with fail
    replace e0 := cell_regrown e0
    replace e1 := cell_regrown e1
    replace e2 := cell_regrown e2
    replace e3 := cell_regrown e3
    refine wp_region_quiet_below (by kernel_rfl) (by kernel_rfl) ?_
    repeat (go_big_quiet_step (fail))
    refine wpQuiet_nil ?_
    intro _ hw'
    obtain ⟨⟨dq, osq⟩, hw''⟩ := hw'
    subst hw''
    have HB := hid (HB.out.trans ((below_regrown _ dq osq).mono HB.out.size))
    replace e0 := e0 dq osq
    replace e1 := e1 dq osq
    replace e2 := e2 dq osq
    replace e3 := e3 dq osq
    generalize grow (redrawn wz dq) osq = wy at HB e0 e1 e2 e3 ⊢
    go_wp2_with fail
    first
    | (refine (HC.out _ HB.out).mono ?_
       rintro e w3 ⟨rfl, hb⟩
       go_wp2_with fail
       go_ret
       refine ⟨ret_bool ?_, HB.out.trans (hb.mono HB.out.size)⟩
       rw [HOK.out]
       have hv := Hv.out
       have hda := Hda.out
       have hdb := Hdb.out
       have hn := Hn.out
       simp [inR, *]; try omega)
    | (go_ret
       refine ⟨ret_bool ?_, HB.out⟩
       rw [HOK.out]
       have hv := Hv.out
       have hda := Hda.out
       have hdb := Hdb.out
       have hn := Hn.out
       simp [inR, *]; try omega)

set_option maxHeartbeats 1000000 in
theorem impl_node10 (v1 : Int) (ds1 : List Int) (ks1 : List Co) (ads1 : Option Addr) (cds1 : Nat) (aks1 : Option Addr) (cks1 : Nat) (w : World) (hl1 : ds1.length ≤ 1048576) (hl2 : ks1.length ≤ 1048576) (hr : RdL w (In.ds ds1) (.slice ads1 ds1.length cds1)) :
    Calls Try.prog 103 #[.agg #[.int .i64 10, .int .i64 v1, .slice ads1 ds1.length cds1, .slice aks1 ks1.length cks1]] w fun e w' => e = .returned (.bool (okCo 10 v1 ds1 ks1.length)) ∧ Below w.heap.size w w' := by
  have HOK := hid (show okCo 10 v1 ds1 ks1.length = (inR ks1.length (1) (1) && (inR ds1.length (2) (2) && (decide (v1 = 0) && coData ds1))) from rfl)
  have HX0 := hid ((Boxes.nil w).alloc #[.int .i64 10, .int .i64 v1, .slice ads1 ds1.length cds1, .slice aks1 ks1.length cks1] 36 (0, 0))
  have HC := hid (fun W (hW : Below w.heap.size w W) => impl_AnyBad ds1 ads1 cds1 W (hr.below hW))
  have HB := hid ((Below.refl w.heap.size w).alloc (Nat.le_refl _) (.cells #[.int .i64 10, .int .i64 v1, .slice ads1 ds1.length cds1, .slice aks1 ks1.length cks1] 36))
  clear hr
  by_cases hv : v1 = 0
  all_goals by_cases hd : ds1.length = 2
  all_goals by_cases hn : ks1.length = 1
  all_goals
    first | (have bv : (v1 == 0) = true := by simp; omega) | (have bv : (v1 == 0) = false := by simp; omega) | (have bv : (v1 == 0) = true := by simp [hv]) | (have bv : (v1 == 0) = false := by simp [hv])
    have Hv := hid hv
    clear hv
    first | (have bd : ((ds1.length : Int) == 2) = true := by simp; omega) | (have bd : ((ds1.length : Int) == 2) = false := by simp; omega) | (have bd : ((ds1.length : Int) == 2) = true := by simp [hd]) | (have bd : ((ds1.length : Int) == 2) = false := by simp [hd])
    have Hd := hid hd
    clear hd
    first | (have bn : ((ks1.length : Int) == 1) = true := by simp; omega) | (have bn : ((ks1.length : Int) == 1) = false := by simp; omega) | (have bn : ((ks1.length : Int) == 1) = true := by simp [hn]) | (have bn : ((ks1.length : Int) == 1) = false := by simp [hn])
    have Hn := hid hn
    clear hn
    go_enter Try.func103, Try.ntmps103
    go_wp2_with fail
    have e0 := cell_regrown (HX0.out.at 0 0 rfl rfl)
    have e1 := cell_regrown (HX0.out.at 0 1 rfl rfl)
    have e2 := cell_regrown (HX0.out.at 0 2 rfl rfl)
    have e3 := cell_regrown (HX0.out.at 0 3 rfl rfl)
    clear HX0
    refine wp_region_quiet_below (by kernel_rfl) (by kernel_rfl) ?_
    repeat (go_big_quiet_step (fail))
    refine wpQuiet_nil ?_
    intro _ hw'
    obtain ⟨⟨dq, osq⟩, hw''⟩ := hw'
    subst hw''
    have HB := hid (HB.out.trans ((below_regrown _ dq osq).mono HB.out.size))
    replace e0 := e0 dq osq
    replace e1 := e1 dq osq
    replace e2 := e2 dq osq
    replace e3 := e3 dq osq
    generalize grow (redrawn (w.alloc (.cells #[.int .i64 10, .int .i64 v1, .slice ads1 ds1.length cds1, .slice aks1 ks1.length cks1] 36)) dq) osq = wz at HB e0 e1 e2 e3 ⊢
    go_wp2_with fail
    replace e0 := cell_regrown e0
    replace e1 := cell_regrown e1
    replace e2 := cell_regrown e2
    replace e3 := cell_regrown e3
    refine wp_region_quiet_below (by kernel_rfl) (by kernel_rfl) ?_
    repeat (go_big_quiet_step (fail))
    refine wpQuiet_nil ?_
    intro _ hw'
    obtain ⟨⟨dq, osq⟩, hw''⟩ := hw'
    subst hw''
    have HB := hid (HB.out.trans ((below_regrown _ dq osq).mono HB.out.size))
    replace e0 := e0 dq osq
    replace e1 := e1 dq osq
    replace e2 := e2 dq osq
    replace e3 := e3 dq osq
    generalize grow (redrawn wz dq) osq = wy at HB e0 e1 e2 e3 ⊢
    go_wp2_with fail
    first
    | (refine (HC.out _ HB.out).mono ?_
       rintro e w3 ⟨rfl, hb⟩
       go_wp2_with fail
       go_ret
       refine ⟨ret_bool ?_, HB.out.trans (hb.mono HB.out.size)⟩
       rw [HOK.out]
       have hv := Hv.out
       have hd := Hd.out
       have hn := Hn.out
       simp [inR, *]; try omega)
    | (go_ret
       refine ⟨ret_bool ?_, HB.out⟩
       rw [HOK.out]
       have hv := Hv.out
       have hd := Hd.out
       have hn := Hn.out
       simp [inR, *]; try omega)

set_option maxHeartbeats 1000000 in
theorem impl_node11 (v1 : Int) (ds1 : List Int) (ks1 : List Co) (ads1 : Option Addr) (cds1 : Nat) (aks1 : Option Addr) (cks1 : Nat) (w : World) (hl1 : ds1.length ≤ 1048576) (hl2 : ks1.length ≤ 1048576) (hr : RdL w (In.ds ds1) (.slice ads1 ds1.length cds1)) :
    Calls Try.prog 103 #[.agg #[.int .i64 11, .int .i64 v1, .slice ads1 ds1.length cds1, .slice aks1 ks1.length cks1]] w fun e w' => e = .returned (.bool (okCo 11 v1 ds1 ks1.length)) ∧ Below w.heap.size w w' := by
  have HOK := hid (show okCo 11 v1 ds1 ks1.length = (inR ks1.length (0) (0) && (inR ds1.length (0) (0) && (inR v1 0 23 && coData ds1))) from rfl)
  have HX0 := hid ((Boxes.nil w).alloc #[.int .i64 11, .int .i64 v1, .slice ads1 ds1.length cds1, .slice aks1 ks1.length cks1] 36 (0, 0))
  have HC := hid (fun W (hW : Below w.heap.size w W) => impl_AnyBad ds1 ads1 cds1 W (hr.below hW))
  have HB := hid ((Below.refl w.heap.size w).alloc (Nat.le_refl _) (.cells #[.int .i64 11, .int .i64 v1, .slice ads1 ds1.length cds1, .slice aks1 ks1.length cks1] 36))
  clear hr
  by_cases hv : inR v1 0 23 = true
  all_goals by_cases hd : ds1.length = 0
  all_goals by_cases hn : ks1.length = 0
  all_goals
    have Hv := hid hv
    clear hv
    first | (have bd : ((ds1.length : Int) == 0) = true := by simp; omega) | (have bd : ((ds1.length : Int) == 0) = false := by simp; omega) | (have bd : ((ds1.length : Int) == 0) = true := by simp [hd]) | (have bd : ((ds1.length : Int) == 0) = false := by simp [hd])
    have Hd := hid hd
    clear hd
    first | (have bn : ((ks1.length : Int) == 0) = true := by simp; omega) | (have bn : ((ks1.length : Int) == 0) = false := by simp; omega) | (have bn : ((ks1.length : Int) == 0) = true := by simp [hn]) | (have bn : ((ks1.length : Int) == 0) = false := by simp [hn])
    have Hn := hid hn
    clear hn
    go_enter Try.func103, Try.ntmps103
    go_wp2_with fail
    have e0 := cell_regrown (HX0.out.at 0 0 rfl rfl)
    have e1 := cell_regrown (HX0.out.at 0 1 rfl rfl)
    have e2 := cell_regrown (HX0.out.at 0 2 rfl rfl)
    have e3 := cell_regrown (HX0.out.at 0 3 rfl rfl)
    clear HX0
    refine wp_region_quiet_below (by kernel_rfl) (by kernel_rfl) ?_
    repeat (go_big_quiet_step (fail))
    refine wpQuiet_nil ?_
    intro _ hw'
    obtain ⟨⟨dq, osq⟩, hw''⟩ := hw'
    subst hw''
    have HB := hid (HB.out.trans ((below_regrown _ dq osq).mono HB.out.size))
    replace e0 := e0 dq osq
    replace e1 := e1 dq osq
    replace e2 := e2 dq osq
    replace e3 := e3 dq osq
    generalize grow (redrawn (w.alloc (.cells #[.int .i64 11, .int .i64 v1, .slice ads1 ds1.length cds1, .slice aks1 ks1.length cks1] 36)) dq) osq = wz at HB e0 e1 e2 e3 ⊢
    go_wp2_with fail
    refine (impl_isDefIndex _ _).mono ?_
    first | rw [Hv.out] | rw [(Bool.not_eq_true _).mp Hv.out]
    rintro e w2 ⟨rfl, rfl⟩
    go_wp2_with fail
    first
    | (refine (HC.out _ HB.out).mono ?_
       rintro e w3 ⟨rfl, hb⟩
       go_wp2_with fail
       go_ret
       refine ⟨ret_bool ?_, HB.out.trans (hb.mono HB.out.size)⟩
       rw [HOK.out]
       first | rw [Hv.out] | rw [(Bool.not_eq_true _).mp Hv.out]
       have hd := Hd.out
       have hn := Hn.out
       simp [inR, *]; try omega)
    | (go_ret
       refine ⟨ret_bool ?_, HB.out⟩
       rw [HOK.out]
       first | rw [Hv.out] | rw [(Bool.not_eq_true _).mp Hv.out]
       have hd := Hd.out
       have hn := Hn.out
       simp [inR, *]; try omega)

end Go.Proofs.Ytejdbmeoaekhcaa
