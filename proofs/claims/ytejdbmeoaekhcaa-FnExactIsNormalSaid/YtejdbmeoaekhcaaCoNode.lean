/- Walks: the form of a core's node, in the program: the node itself. -/
import Derived.Test.YtejdbmeoaekhcaaCoTests
namespace Go.Proofs.Ytejdbmeoaekhcaa
open Go.ChangeShapes Go.WideShapes Go.ChangeAt Go.RowKit Go.BigFrame
open Go.Sort (grow)
set_option linter.unusedVariables false

set_option maxHeartbeats 1000000 in
theorem impl_node1 (v1 : Int) (ds1 : List Int) (ks1 : List Co) (ads1 : Option Addr) (cds1 : Nat) (aks1 : Option Addr) (cks1 : Nat) (w : World) (hl1 : ds1.length ≤ 1048576) (hl2 : ks1.length ≤ 1048576) (hr : RdL w (In.ds ds1) (.slice ads1 ds1.length cds1)) :
    Calls Try.prog 103 #[.agg #[.int .i64 1, .int .i64 v1, .slice ads1 ds1.length cds1, .slice aks1 ks1.length cks1]] w fun e w' => e = .returned (.bool (okCo 1 v1 ds1 ks1.length)) ∧ Below w.heap.size w w' := by
  have HOK := hid (show okCo 1 v1 ds1 ks1.length = (inR ks1.length (0) (0) && (inR ds1.length (0) (0) && (inR v1 0 255 && coData ds1))) from rfl)
  have HX0 := hid ((Boxes.nil w).alloc #[.int .i64 1, .int .i64 v1, .slice ads1 ds1.length cds1, .slice aks1 ks1.length cks1] 36 (0, 0))
  have HC := hid (fun W (hW : Below w.heap.size w W) => impl_AnyBad ds1 ads1 cds1 W (hr.below hW))
  have HB := hid ((Below.refl w.heap.size w).alloc (Nat.le_refl _) (.cells #[.int .i64 1, .int .i64 v1, .slice ads1 ds1.length cds1, .slice aks1 ks1.length cks1] 36))
  clear hr
  by_cases hva : 0 ≤ v1
  all_goals by_cases hvb : v1 ≤ 255
  all_goals by_cases hd : ds1.length = 0
  all_goals by_cases hn : ks1.length = 0
  all_goals
    first | (have bva : decide (0 ≤ v1) = true := by simp; omega) | (have bva : decide (0 ≤ v1) = false := by simp; omega) | (have bva : decide (0 ≤ v1) = true := by simp [hva]) | (have bva : decide (0 ≤ v1) = false := by simp [hva])
    have Hva := hid hva
    clear hva
    first | (have bvb : decide (v1 ≤ 255) = true := by simp; omega) | (have bvb : decide (v1 ≤ 255) = false := by simp; omega) | (have bvb : decide (v1 ≤ 255) = true := by simp [hvb]) | (have bvb : decide (v1 ≤ 255) = false := by simp [hvb])
    have Hvb := hid hvb
    clear hvb
    first | (have bd : ((ds1.length : Int) == 0) = true := by simp; omega) | (have bd : ((ds1.length : Int) == 0) = false := by simp; omega) | (have bd : ((ds1.length : Int) == 0) = true := by simp [hd]) | (have bd : ((ds1.length : Int) == 0) = false := by simp [hd])
    have Hd := hid hd
    clear hd
    first | (have bn : ((ks1.length : Int) == 0) = true := by simp; omega) | (have bn : ((ks1.length : Int) == 0) = false := by simp; omega) | (have bn : ((ks1.length : Int) == 0) = true := by simp [hn]) | (have bn : ((ks1.length : Int) == 0) = false := by simp [hn])
    have Hn := hid hn
    clear hn
    go_enter Try.func103, Try.ntmps103
    go_wp2_with fail
    have e0 := cell_regrown (HX0.out.at 0 0 rfl rfl)
    have e1 := cell_regrown (HX0.out.at 0 1 rfl rfl)
    have e2 := cell_regrown (HX0.out.at 0 2 rfl rfl)
    have e3 := cell_regrown (HX0.out.at 0 3 rfl rfl)
    clear HX0
    refine wp_region_quiet_below (by kernel_rfl) (by kernel_rfl) ?_
    repeat (go_big_quiet_step (fail))
    refine wpQuiet_nil ?_
    intro _ hw'
    obtain ⟨⟨dq, osq⟩, hw''⟩ := hw'
    subst hw''
    have HB := hid (HB.out.trans ((below_regrown _ dq osq).mono HB.out.size))
    replace e0 := e0 dq osq
    replace e1 := e1 dq osq
    replace e2 := e2 dq osq
    replace e3 := e3 dq osq
    generalize grow (redrawn (w.alloc (.cells #[.int .i64 1, .int .i64 v1, .slice ads1 ds1.length cds1, .slice aks1 ks1.length cks1] 36)) dq) osq = wz at HB e0 e1 e2 e3 ⊢
    go_wp2_with fail
    first
    | (refine (HC.out _ HB.out).mono ?_
       rintro e w3 ⟨rfl, hb⟩
       go_wp2_with fail
       go_ret
       refine ⟨ret_bool ?_, HB.out.trans (hb.mono HB.out.size)⟩
       rw [HOK.out]
       have hva := Hva.out
       have hvb := Hvb.out
       have hd := Hd.out
       have hn := Hn.out
       simp [inR, *]; try omega)
    | (go_ret
       refine ⟨ret_bool ?_, HB.out⟩
       rw [HOK.out]
       have hva := Hva.out
       have hvb := Hvb.out
       have hd := Hd.out
       have hn := Hn.out
       simp [inR, *]; try omega)

set_option maxHeartbeats 1000000 in
theorem impl_node2 (v1 : Int) (ds1 : List Int) (ks1 : List Co) (ads1 : Option Addr) (cds1 : Nat) (aks1 : Option Addr) (cks1 : Nat) (w : World) (hl1 : ds1.length ≤ 1048576) (hl2 : ks1.length ≤ 1048576) (hr : RdL w (In.ds ds1) (.slice ads1 ds1.length cds1)) :
    Calls Try.prog 103 #[.agg #[.int .i64 2, .int .i64 v1, .slice ads1 ds1.length cds1, .slice aks1 ks1.length cks1]] w fun e w' => e = .returned (.bool (okCo 2 v1 ds1 ks1.length)) ∧ Below w.heap.size w w' := by
  have HOK := hid (show okCo 2 v1 ds1 ks1.length = (inR ks1.length (0) (0) && (inR ds1.length (0) (0) && (inR v1 (-2147483648) 2147483647 && coData ds1))) from rfl)
  have HX0 := hid ((Boxes.nil w).alloc #[.int .i64 2, .int .i64 v1, .slice ads1 ds1.length cds1, .slice aks1 ks1.length cks1] 36 (0, 0))
  have HC := hid (fun W (hW : Below w.heap.size w W) => impl_AnyBad ds1 ads1 cds1 W (hr.below hW))
  have HB := hid ((Below.refl w.heap.size w).alloc (Nat.le_refl _) (.cells #[.int .i64 2, .int .i64 v1, .slice ads1 ds1.length cds1, .slice aks1 ks1.length cks1] 36))
  clear hr
  by_cases hv : inR v1 (-2147483648) 2147483647 = true
  all_goals by_cases hd : ds1.length = 0
  all_goals by_cases hn : ks1.length = 0
  all_goals
    have Hv := hid hv
    clear hv
    first | (have bd : ((ds1.length : Int) == 0) = true := by simp; omega) | (have bd : ((ds1.length : Int) == 0) = false := by simp; omega) | (have bd : ((ds1.length : Int) == 0) = true := by simp [hd]) | (have bd : ((ds1.length : Int) == 0) = false := by simp [hd])
    have Hd := hid hd
    clear hd
    first | (have bn : ((ks1.length : Int) == 0) = true := by simp; omega) | (have bn : ((ks1.length : Int) == 0) = false := by simp; omega) | (have bn : ((ks1.length : Int) == 0) = true := by simp [hn]) | (have bn : ((ks1.length : Int) == 0) = false := by simp [hn])
    have Hn := hid hn
    clear hn
    go_enter Try.func103, Try.ntmps103
    go_wp2_with fail
    have e0 := cell_regrown (HX0.out.at 0 0 rfl rfl)
    have e1 := cell_regrown (HX0.out.at 0 1 rfl rfl)
    have e2 := cell_regrown (HX0.out.at 0 2 rfl rfl)
    have e3 := cell_regrown (HX0.out.at 0 3 rfl rfl)
    clear HX0
    refine wp_region_quiet_below (by kernel_rfl) (by kernel_rfl) ?_
    repeat (go_big_quiet_step (fail))
    refine wpQuiet_nil ?_
    intro _ hw'
    obtain ⟨⟨dq, osq⟩, hw''⟩ := hw'
    subst hw''
    have HB := hid (HB.out.trans ((below_regrown _ dq osq).mono HB.out.size))
    replace e0 := e0 dq osq
    replace e1 := e1 dq osq
    replace e2 := e2 dq osq
    replace e3 := e3 dq osq
    generalize grow (redrawn (w.alloc (.cells #[.int .i64 2, .int .i64 v1, .slice ads1 ds1.length cds1, .slice aks1 ks1.length cks1] 36)) dq) osq = wz at HB e0 e1 e2 e3 ⊢
    go_wp2_with fail
    refine (impl_isInt _ _).mono ?_
    first | rw [Hv.out] | rw [(Bool.not_eq_true _).mp Hv.out]
    rintro e w2 ⟨rfl, rfl⟩
    go_wp2_with fail
    first
    | (refine (HC.out _ HB.out).mono ?_
       rintro e w3 ⟨rfl, hb⟩
       go_wp2_with fail
       go_ret
       refine ⟨ret_bool ?_, HB.out.trans (hb.mono HB.out.size)⟩
       rw [HOK.out]
       first | rw [Hv.out] | rw [(Bool.not_eq_true _).mp Hv.out]
       have hd := Hd.out
       have hn := Hn.out
       simp [inR, *]; try omega)
    | (go_ret
       refine ⟨ret_bool ?_, HB.out⟩
       rw [HOK.out]
       first | rw [Hv.out] | rw [(Bool.not_eq_true _).mp Hv.out]
       have hd := Hd.out
       have hn := Hn.out
       simp [inR, *]; try omega)

set_option maxHeartbeats 1000000 in
theorem impl_node3 (v1 : Int) (ds1 : List Int) (ks1 : List Co) (ads1 : Option Addr) (cds1 : Nat) (aks1 : Option Addr) (cks1 : Nat) (w : World) (hl1 : ds1.length ≤ 1048576) (hl2 : ks1.length ≤ 1048576) (hr : RdL w (In.ds ds1) (.slice ads1 ds1.length cds1)) :
    Calls Try.prog 103 #[.agg #[.int .i64 3, .int .i64 v1, .slice ads1 ds1.length cds1, .slice aks1 ks1.length cks1]] w fun e w' => e = .returned (.bool (okCo 3 v1 ds1 ks1.length)) ∧ Below w.heap.size w w' := by
  have HOK := hid (show okCo 3 v1 ds1 ks1.length = (inR ks1.length (2) (2) && (inR ds1.length (0) (0) && (inR v1 1 6 && coData ds1))) from rfl)
  have HX0 := hid ((Boxes.nil w).alloc #[.int .i64 3, .int .i64 v1, .slice ads1 ds1.length cds1, .slice aks1 ks1.length cks1] 36 (0, 0))
  have HC := hid (fun W (hW : Below w.heap.size w W) => impl_AnyBad ds1 ads1 cds1 W (hr.below hW))
  have HB := hid ((Below.refl w.heap.size w).alloc (Nat.le_refl _) (.cells #[.int .i64 3, .int .i64 v1, .slice ads1 ds1.length cds1, .slice aks1 ks1.length cks1] 36))
  clear hr
  by_cases hv : inR v1 1 6 = true
  all_goals by_cases hd : ds1.length = 0
  all_goals by_cases hn : ks1.length = 2
  all_goals
    have Hv := hid hv
    clear hv
    first | (have bd : ((ds1.length : Int) == 0) = true := by simp; omega) | (have bd : ((ds1.length : Int) == 0) = false := by simp; omega) | (have bd : ((ds1.length : Int) == 0) = true := by simp [hd]) | (have bd : ((ds1.length : Int) == 0) = false := by simp [hd])
    have Hd := hid hd
    clear hd
    first | (have bn : ((ks1.length : Int) == 2) = true := by simp; omega) | (have bn : ((ks1.length : Int) == 2) = false := by simp; omega) | (have bn : ((ks1.length : Int) == 2) = true := by simp [hn]) | (have bn : ((ks1.length : Int) == 2) = false := by simp [hn])
    have Hn := hid hn
    clear hn
    go_enter Try.func103, Try.ntmps103
    go_wp2_with fail
    have e0 := cell_regrown (HX0.out.at 0 0 rfl rfl)
    have e1 := cell_regrown (HX0.out.at 0 1 rfl rfl)
    have e2 := cell_regrown (HX0.out.at 0 2 rfl rfl)
    have e3 := cell_regrown (HX0.out.at 0 3 rfl rfl)
    clear HX0
    refine wp_region_quiet_below (by kernel_rfl) (by kernel_rfl) ?_
    repeat (go_big_quiet_step (fail))
    refine wpQuiet_nil ?_
    intro _ hw'
    obtain ⟨⟨dq, osq⟩, hw''⟩ := hw'
    subst hw''
    have HB := hid (HB.out.trans ((below_regrown _ dq osq).mono HB.out.size))
    replace e0 := e0 dq osq
    replace e1 := e1 dq osq
    replace e2 := e2 dq osq
    replace e3 := e3 dq osq
    generalize grow (redrawn (w.alloc (.cells #[.int .i64 3, .int .i64 v1, .slice ads1 ds1.length cds1, .slice aks1 ks1.length cks1] 36)) dq) osq = wz at HB e0 e1 e2 e3 ⊢
    go_wp2_with fail
    refine (impl_isOperator _ _).mono ?_
    first | rw [Hv.out] | rw [(Bool.not_eq_true _).mp Hv.out]
    rintro e w2 ⟨rfl, rfl⟩
    go_wp2_with fail
    first
    | (refine (HC.out _ HB.out).mono ?_
       rintro e w3 ⟨rfl, hb⟩
       go_wp2_with fail
       go_ret
       refine ⟨ret_bool ?_, HB.out.trans (hb.mono HB.out.size)⟩
       rw [HOK.out]
       first | rw [Hv.out] | rw [(Bool.not_eq_true _).mp Hv.out]
       have hd := Hd.out
       have hn := Hn.out
       simp [inR, *]; try omega)
    | (go_ret
       refine ⟨ret_bool ?_, HB.out⟩
       rw [HOK.out]
       first | rw [Hv.out] | rw [(Bool.not_eq_true _).mp Hv.out]
       have hd := Hd.out
       have hn := Hn.out
       simp [inR, *]; try omega)

set_option maxHeartbeats 1000000 in
theorem impl_node4 (v1 : Int) (ds1 : List Int) (ks1 : List Co) (ads1 : Option Addr) (cds1 : Nat) (aks1 : Option Addr) (cks1 : Nat) (w : World) (hl1 : ds1.length ≤ 1048576) (hl2 : ks1.length ≤ 1048576) (hr : RdL w (In.ds ds1) (.slice ads1 ds1.length cds1)) :
    Calls Try.prog 103 #[.agg #[.int .i64 4, .int .i64 v1, .slice ads1 ds1.length cds1, .slice aks1 ks1.length cks1]] w fun e w' => e = .returned (.bool (okCo 4 v1 ds1 ks1.length)) ∧ Below w.heap.size w w' := by
  have HOK := hid (show okCo 4 v1 ds1 ks1.length = (inR ks1.length (1) (1) && (inR ds1.length (0) (0) && (decide (v1 = 0) && coData ds1))) from rfl)
  have HX0 := hid ((Boxes.nil w).alloc #[.int .i64 4, .int .i64 v1, .slice ads1 ds1.length cds1, .slice aks1 ks1.length cks1] 36 (0, 0))
  have HC := hid (fun W (hW : Below w.heap.size w W) => impl_AnyBad ds1 ads1 cds1 W (hr.below hW))
  have HB := hid ((Below.refl w.heap.size w).alloc (Nat.le_refl _) (.cells #[.int .i64 4, .int .i64 v1, .slice ads1 ds1.length cds1, .slice aks1 ks1.length cks1] 36))
  clear hr
  by_cases hv : v1 = 0
  all_goals by_cases hd : ds1.length = 0
  all_goals by_cases hn : ks1.length = 1
  all_goals
    first | (have bv : (v1 == 0) = true := by simp; omega) | (have bv : (v1 == 0) = false := by simp; omega) | (have bv : (v1 == 0) = true := by simp [hv]) | (have bv : (v1 == 0) = false := by simp [hv])
    have Hv := hid hv
    clear hv
    first | (have bd : ((ds1.length : Int) == 0) = true := by simp; omega) | (have bd : ((ds1.length : Int) == 0) = false := by simp; omega) | (have bd : ((ds1.length : Int) == 0) = true := by simp [hd]) | (have bd : ((ds1.length : Int) == 0) = false := by simp [hd])
    have Hd := hid hd
    clear hd
    first | (have bn : ((ks1.length : Int) == 1) = true := by simp; omega) | (have bn : ((ks1.length : Int) == 1) = false := by simp; omega) | (have bn : ((ks1.length : Int) == 1) = true := by simp [hn]) | (have bn : ((ks1.length : Int) == 1) = false := by simp [hn])
    have Hn := hid hn
    clear hn
    go_enter Try.func103, Try.ntmps103
    go_wp2_with fail
    have e0 := cell_regrown (HX0.out.at 0 0 rfl rfl)
    have e1 := cell_regrown (HX0.out.at 0 1 rfl rfl)
    have e2 := cell_regrown (HX0.out.at 0 2 rfl rfl)
    have e3 := cell_regrown (HX0.out.at 0 3 rfl rfl)
    clear HX0
    refine wp_region_quiet_below (by kernel_rfl) (by kernel_rfl) ?_
    repeat (go_big_quiet_step (fail))
    refine wpQuiet_nil ?_
    intro _ hw'
    obtain ⟨⟨dq, osq⟩, hw''⟩ := hw'
    subst hw''
    have HB := hid (HB.out.trans ((below_regrown _ dq osq).mono HB.out.size))
    replace e0 := e0 dq osq
    replace e1 := e1 dq osq
    replace e2 := e2 dq osq
    replace e3 := e3 dq osq
    generalize grow (redrawn (w.alloc (.cells #[.int .i64 4, .int .i64 v1, .slice ads1 ds1.length cds1, .slice aks1 ks1.length cks1] 36)) dq) osq = wz at HB e0 e1 e2 e3 ⊢
    go_wp2_with fail
    first
    | (refine (HC.out _ HB.out).mono ?_
       rintro e w3 ⟨rfl, hb⟩
       go_wp2_with fail
       go_ret
       refine ⟨ret_bool ?_, HB.out.trans (hb.mono HB.out.size)⟩
       rw [HOK.out]
       have hv := Hv.out
       have hd := Hd.out
       have hn := Hn.out
       simp [inR, *]; try omega)
    | (go_ret
       refine ⟨ret_bool ?_, HB.out⟩
       rw [HOK.out]
       have hv := Hv.out
       have hd := Hd.out
       have hn := Hn.out
       simp [inR, *]; try omega)

set_option maxHeartbeats 1000000 in
theorem impl_node5 (v1 : Int) (ds1 : List Int) (ks1 : List Co) (ads1 : Option Addr) (cds1 : Nat) (aks1 : Option Addr) (cks1 : Nat) (w : World) (hl1 : ds1.length ≤ 1048576) (hl2 : ks1.length ≤ 1048576) (hr : RdL w (In.ds ds1) (.slice ads1 ds1.length cds1)) :
    Calls Try.prog 103 #[.agg #[.int .i64 5, .int .i64 v1, .slice ads1 ds1.length cds1, .slice aks1 ks1.length cks1]] w fun e w' => e = .returned (.bool (okCo 5 v1 ds1 ks1.length)) ∧ Below w.heap.size w w' := by
  have HOK := hid (show okCo 5 v1 ds1 ks1.length = (inR ks1.length (2) (2) && (inR ds1.length (0) (0) && (decide (v1 = 0) && coData ds1))) from rfl)
  have HX0 := hid ((Boxes.nil w).alloc #[.int .i64 5, .int .i64 v1, .slice ads1 ds1.length cds1, .slice aks1 ks1.length cks1] 36 (0, 0))
  have HC := hid (fun W (hW : Below w.heap.size w W) => impl_AnyBad ds1 ads1 cds1 W (hr.below hW))
  have HB := hid ((Below.refl w.heap.size w).alloc (Nat.le_refl _) (.cells #[.int .i64 5, .int .i64 v1, .slice ads1 ds1.length cds1, .slice aks1 ks1.length cks1] 36))
  clear hr
  by_cases hv : v1 = 0
  all_goals by_cases hd : ds1.length = 0
  all_goals by_cases hn : ks1.length = 2
  all_goals
    first | (have bv : (v1 == 0) = true := by simp; omega) | (have bv : (v1 == 0) = false := by simp; omega) | (have bv : (v1 == 0) = true := by simp [hv]) | (have bv : (v1 == 0) = false := by simp [hv])
    have Hv := hid hv
    clear hv
    first | (have bd : ((ds1.length : Int) == 0) = true := by simp; omega) | (have bd : ((ds1.length : Int) == 0) = false := by simp; omega) | (have bd : ((ds1.length : Int) == 0) = true := by simp [hd]) | (have bd : ((ds1.length : Int) == 0) = false := by simp [hd])
    have Hd := hid hd
    clear hd
    first | (have bn : ((ks1.length : Int) == 2) = true := by simp; omega) | (have bn : ((ks1.length : Int) == 2) = false := by simp; omega) | (have bn : ((ks1.length : Int) == 2) = true := by simp [hn]) | (have bn : ((ks1.length : Int) == 2) = false := by simp [hn])
    have Hn := hid hn
    clear hn
    go_enter Try.func103, Try.ntmps103
    go_wp2_with fail
    have e0 := cell_regrown (HX0.out.at 0 0 rfl rfl)
    have e1 := cell_regrown (HX0.out.at 0 1 rfl rfl)
    have e2 := cell_regrown (HX0.out.at 0 2 rfl rfl)
    have e3 := cell_regrown (HX0.out.at 0 3 rfl rfl)
    clear HX0
    refine wp_region_quiet_below (by kernel_rfl) (by kernel_rfl) ?_
    repeat (go_big_quiet_step (fail))
    refine wpQuiet_nil ?_
    intro _ hw'
    obtain ⟨⟨dq, osq⟩, hw''⟩ := hw'
    subst hw''
    have HB := hid (HB.out.trans ((below_regrown _ dq osq).mono HB.out.size))
    replace e0 := e0 dq osq
    replace e1 := e1 dq osq
    replace e2 := e2 dq osq
    replace e3 := e3 dq osq
    generalize grow (redrawn (w.alloc (.cells #[.int .i64 5, .int .i64 v1, .slice ads1 ds1.length cds1, .slice aks1 ks1.length cks1] 36)) dq) osq = wz at HB e0 e1 e2 e3 ⊢
    go_wp2_with fail
    first
    | (refine (HC.out _ HB.out).mono ?_
       rintro e w3 ⟨rfl, hb⟩
       go_wp2_with fail
       go_ret
       refine ⟨ret_bool ?_, HB.out.trans (hb.mono HB.out.size)⟩
       rw [HOK.out]
       have hv := Hv.out
       have hd := Hd.out
       have hn := Hn.out
       simp [inR, *]; try omega)
    | (go_ret
       refine ⟨ret_bool ?_, HB.out⟩
       rw [HOK.out]
       have hv := Hv.out
       have hd := Hd.out
       have hn := Hn.out
       simp [inR, *]; try omega)

set_option maxHeartbeats 1000000 in
theorem impl_node6 (v1 : Int) (ds1 : List Int) (ks1 : List Co) (ads1 : Option Addr) (cds1 : Nat) (aks1 : Option Addr) (cks1 : Nat) (w : World) (hl1 : ds1.length ≤ 1048576) (hl2 : ks1.length ≤ 1048576) (hr : RdL w (In.ds ds1) (.slice ads1 ds1.length cds1)) :
    Calls Try.prog 103 #[.agg #[.int .i64 6, .int .i64 v1, .slice ads1 ds1.length cds1, .slice aks1 ks1.length cks1]] w fun e w' => e = .returned (.bool (okCo 6 v1 ds1 ks1.length)) ∧ Below w.heap.size w w' := by
  have HOK := hid (show okCo 6 v1 ds1 ks1.length = (inR ks1.length (1) (1) && (inR ds1.length (0) (0) && (decide (v1 = 0) && coData ds1))) from rfl)
  have HX0 := hid ((Boxes.nil w).alloc #[.int .i64 6, .int .i64 v1, .slice ads1 ds1.length cds1, .slice aks1 ks1.length cks1] 36 (0, 0))
  have HC := hid (fun W (hW : Below w.heap.size w W) => impl_AnyBad ds1 ads1 cds1 W (hr.below hW))
  have HB := hid ((Below.refl w.heap.size w).alloc (Nat.le_refl _) (.cells #[.int .i64 6, .int .i64 v1, .slice ads1 ds1.length cds1, .slice aks1 ks1.length cks1] 36))
  clear hr
  by_cases hv : v1 = 0
  all_goals by_cases hd : ds1.length = 0
  all_goals by_cases hn : ks1.length = 1
  all_goals
    first | (have bv : (v1 == 0) = true := by simp; omega) | (have bv : (v1 == 0) = false := by simp; omega) | (have bv : (v1 == 0) = true := by simp [hv]) | (have bv : (v1 == 0) = false := by simp [hv])
    have Hv := hid hv
    clear hv
    first | (have bd : ((ds1.length : Int) == 0) = true := by simp; omega) | (have bd : ((ds1.length : Int) == 0) = false := by simp; omega) | (have bd : ((ds1.length : Int) == 0) = true := by simp [hd]) | (have bd : ((ds1.length : Int) == 0) = false := by simp [hd])
    have Hd := hid hd
    clear hd
    first | (have bn : ((ks1.length : Int) == 1) = true := by simp; omega) | (have bn : ((ks1.length : Int) == 1) = false := by simp; omega) | (have bn : ((ks1.length : Int) == 1) = true := by simp [hn]) | (have bn : ((ks1.length : Int) == 1) = false := by simp [hn])
    have Hn := hid hn
    clear hn
    go_enter Try.func103, Try.ntmps103
    go_wp2_with fail
    have e0 := cell_regrown (HX0.out.at 0 0 rfl rfl)
    have e1 := cell_regrown (HX0.out.at 0 1 rfl rfl)
    have e2 := cell_regrown (HX0.out.at 0 2 rfl rfl)
    have e3 := cell_regrown (HX0.out.at 0 3 rfl rfl)
    clear HX0
    refine wp_region_quiet_below (by kernel_rfl) (by kernel_rfl) ?_
    repeat (go_big_quiet_step (fail))
    refine wpQuiet_nil ?_
    intro _ hw'
    obtain ⟨⟨dq, osq⟩, hw''⟩ := hw'
    subst hw''
    have HB := hid (HB.out.trans ((below_regrown _ dq osq).mono HB.out.size))
    replace e0 := e0 dq osq
    replace e1 := e1 dq osq
    replace e2 := e2 dq osq
    replace e3 := e3 dq osq
    generalize grow (redrawn (w.alloc (.cells #[.int .i64 6, .int .i64 v1, .slice ads1 ds1.length cds1, .slice aks1 ks1.length cks1] 36)) dq) osq = wz at HB e0 e1 e2 e3 ⊢
    go_wp2_with fail
    first
    | (refine (HC.out _ HB.out).mono ?_
       rintro e w3 ⟨rfl, hb⟩
       go_wp2_with fail
       go_ret
       refine ⟨ret_bool ?_, HB.out.trans (hb.mono HB.out.size)⟩
       rw [HOK.out]
       have hv := Hv.out
       have hd := Hd.out
       have hn := Hn.out
       simp [inR, *]; try omega)
    | (go_ret
       refine ⟨ret_bool ?_, HB.out⟩
       rw [HOK.out]
       have hv := Hv.out
       have hd := Hd.out
       have hn := Hn.out
       simp [inR, *]; try omega)

set_option maxHeartbeats 1000000 in
theorem impl_node7 (v1 : Int) (ds1 : List Int) (ks1 : List Co) (ads1 : Option Addr) (cds1 : Nat) (aks1 : Option Addr) (cks1 : Nat) (w : World) (hl1 : ds1.length ≤ 1048576) (hl2 : ks1.length ≤ 1048576) (hr : RdL w (In.ds ds1) (.slice ads1 ds1.length cds1)) :
    Calls Try.prog 103 #[.agg #[.int .i64 7, .int .i64 v1, .slice ads1 ds1.length cds1, .slice aks1 ks1.length cks1]] w fun e w' => e = .returned (.bool (okCo 7 v1 ds1 ks1.length)) ∧ Below w.heap.size w w' := by
  have HOK := hid (show okCo 7 v1 ds1 ks1.length = (inR ks1.length (2) (2) && (inR ds1.length (0) (0) && (decide (v1 = 0) && coData ds1))) from rfl)
  have HX0 := hid ((Boxes.nil w).alloc #[.int .i64 7, .int .i64 v1, .slice ads1 ds1.length cds1, .slice aks1 ks1.length cks1] 36 (0, 0))
  have HC := hid (fun W (hW : Below w.heap.size w W) => impl_AnyBad ds1 ads1 cds1 W (hr.below hW))
  have HB := hid ((Below.refl w.heap.size w).alloc (Nat.le_refl _) (.cells #[.int .i64 7, .int .i64 v1, .slice ads1 ds1.length cds1, .slice aks1 ks1.length cks1] 36))
  clear hr
  by_cases hv : v1 = 0
  all_goals by_cases hd : ds1.length = 0
  all_goals by_cases hn : ks1.length = 2
  all_goals
    first | (have bv : (v1 == 0) = true := by simp; omega) | (have bv : (v1 == 0) = false := by simp; omega) | (have bv : (v1 == 0) = true := by simp [hv]) | (have bv : (v1 == 0) = false := by simp [hv])
    have Hv := hid hv
    clear hv
    first | (have bd : ((ds1.length : Int) == 0) = true := by simp; omega) | (have bd : ((ds1.length : Int) == 0) = false := by simp; omega) | (have bd : ((ds1.length : Int) == 0) = true := by simp [hd]) | (have bd : ((ds1.length : Int) == 0) = false := by simp [hd])
    have Hd := hid hd
    clear hd
    first | (have bn : ((ks1.length : Int) == 2) = true := by simp; omega) | (have bn : ((ks1.length : Int) == 2) = false := by simp; omega) | (have bn : ((ks1.length : Int) == 2) = true := by simp [hn]) | (have bn : ((ks1.length : Int) == 2) = false := by simp [hn])
    have Hn := hid hn
    clear hn
    go_enter Try.func103, Try.ntmps103
    go_wp2_with fail
    have e0 := cell_regrown (HX0.out.at 0 0 rfl rfl)
    have e1 := cell_regrown (HX0.out.at 0 1 rfl rfl)
    have e2 := cell_regrown (HX0.out.at 0 2 rfl rfl)
    have e3 := cell_regrown (HX0.out.at 0 3 rfl rfl)
    clear HX0
    refine wp_region_quiet_below (by kernel_rfl) (by kernel_rfl) ?_
    repeat (go_big_quiet_step (fail))
    refine wpQuiet_nil ?_
    intro _ hw'
    obtain ⟨⟨dq, osq⟩, hw''⟩ := hw'
    subst hw''
    have HB := hid (HB.out.trans ((below_regrown _ dq osq).mono HB.out.size))
    replace e0 := e0 dq osq
    replace e1 := e1 dq osq
    replace e2 := e2 dq osq
    replace e3 := e3 dq osq
    generalize grow (redrawn (w.alloc (.cells #[.int .i64 7, .int .i64 v1, .slice ads1 ds1.length cds1, .slice aks1 ks1.length cks1] 36)) dq) osq = wz at HB e0 e1 e2 e3 ⊢
    go_wp2_with fail
    first
    | (refine (HC.out _ HB.out).mono ?_
       rintro e w3 ⟨rfl, hb⟩
       go_wp2_with fail
       go_ret
       refine ⟨ret_bool ?_, HB.out.trans (hb.mono HB.out.size)⟩
       rw [HOK.out]
       have hv := Hv.out
       have hd := Hd.out
       have hn := Hn.out
       simp [inR, *]; try omega)
    | (go_ret
       refine ⟨ret_bool ?_, HB.out⟩
       rw [HOK.out]
       have hv := Hv.out
       have hd := Hd.out
       have hn := Hn.out
       simp [inR, *]; try omega)

end Go.Proofs.Ytejdbmeoaekhcaa
