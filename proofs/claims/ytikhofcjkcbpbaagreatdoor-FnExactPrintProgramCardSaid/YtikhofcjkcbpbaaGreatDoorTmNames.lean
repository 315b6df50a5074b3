/- Walks: names of fields. -/
import Derived.Test.YtikhofcjkcbpbaaGreatDoorTmSmall
namespace Go.Proofs.YtikhofcjkcbpbaaGreatDoor
open Go.ChangeShapes Go.WideShapes Go.ChangeAt Go.RowKit Go.BigFrame
open Go.Sort (grow)
set_option linter.unusedVariables false

theorem dropGet {α : Type} {l : List α} {j : Nat} {t : α} (h : l[j]? = some t) : l.drop j = t :: l.drop (j + 1) := by
  have hj : j < l.length := (List.getElem?_eq_some_iff.1 h).1
  have := (List.getElem?_eq_some_iff.1 h).2
  rw [List.drop_eq_getElem_cons hj, this]
theorem low_step {ns : List ByteArray} {j : Nat} {n : ByteArray} (h : ns[j]? = some n) : lowFrom ns (ns.drop j) j = ((isLowerB n && !hasStr (ns.take j) n) && lowFrom ns (ns.drop (j + 1)) (j + 1)) := by rw [dropGet h, lowFrom]
theorem Sr.ds_take : ∀ (ts : List ByteArray) (i : Nat), Sr.ds (ts.take i) = (Sr.ds ts).take i
  | [], i => by simp [Sr.ds]
  | t :: ts, 0 => by simp [Sr.ds]
  | t :: ts, i + 1 => by rw [List.take_succ_cons, Sr.ds, Sr.ds, List.take_succ_cons, Sr.ds_take ts i]
set_option maxHeartbeats 1000000 in
theorem spec_l03Distinct (ns : List ByteArray) (a : Option Addr) (c : Nat) (w : World) (hr : RdL w (Sr.ds ns) (.slice a ns.length c)) :
    Calls Tryz.prog 124 #[.slice a ns.length c] w fun e w' => e = .returned (.bool (lowFrom ns ns 0)) ∧ Below w.heap.size w w' := by
  have HR := hid hr
  obtain ⟨_, _, e, h2, h3, h4⟩ := hr.eSr
  simp only [Value.slice.injEq, true_and] at e
  obtain ⟨rfl, rfl⟩ := e
  have hlen : ns.length ≤ 9223372036854775807 := Nat.le_trans h2 h3
  have H4 := hid h4
  have hcap : ns.length ≤ c := h2
  clear hr h4 h2
  go_enter Tryz.func124, Tryz.ntmps124
  go_wp2_with fail
  go_loopw [3] (fun i wr => ∃ (j : Nat), j ≤ ns.length ∧ i = .int .i64 j ∧ Hid (lowFrom ns ns 0 = lowFrom ns (ns.drop j) j) ∧ Below w.heap.size w wr) (fun i _ => ns.length - (intOf i).toNat)
  case atStart => exact ⟨0, by omega, rfl, rfl, Below.refl _ _⟩
  case round =>
    obtain ⟨j, hj, rfl, HJ, hb⟩ := hrel
    by_cases hlt : j < ns.length
    case neg =>
      go_wp2_with fail
      go_ret
      exact ⟨ret_bool (by rw [HJ.out, List.drop_eq_nil_of_le (by omega), lowFrom]), hb⟩
    case pos =>
    obtain ⟨b, o, rfl, hbl, hall⟩ := H4.out (by omega)
    obtain ⟨n, ht⟩ : ∃ t, ns[j]? = some t := ⟨_, List.getElem?_eq_getElem hlt⟩
    have c0 := cell_regrown ((hb.cell (p := ⟨b, o + j, none⟩) hbl).trans (hall j n ht).1)
    clear hall H4
    have HS := hid (low_step ht)
    have hv := fun d os => Calls.regrown_of (spec_IsLower n (grow (redrawn wr d) os))
    have ha := fun d os => Calls.regrown_of ((spec_l03At (ns.take j) (some ⟨b, o, none⟩) c n (grow (redrawn wr d) os) (by rw [Sr.ds_take, List.length_take, Nat.min_eq_left hj]; exact ((HR.out.takeD hj).below hb).below (below_regrown wr d os))).mono fun _ _ ⟨h, e⟩ => ⟨h, e ▸ Below.refl _ _⟩)
    simp only [List.length_take, Nat.min_eq_left hj] at ha
    have hm := lastAt_has n (ns.take j)
    generalize lastAt n (ns.take j) = m at ha hm
    have HB := hid hb
    clear ht
    by_cases h1 : isLowerB n = true
    case neg =>
      replace h1 := (Bool.not_eq_true _).mp h1
      have HF := hid (show lowFrom ns ns 0 = false by rw [HJ.out, HS.out, h1]; rfl)
      rw [h1] at hv
      have HV := hid hv
      have HA := hid ha
      clear hv ha h1 hm
      go_wp2_with fail
      refine wp_region_quiet_below (by kernel_rfl) (by kernel_rfl) ?_
      repeat (go_big_quiet_step (first | exact HV.out _ _ | exact HA.out _ _))
      refine wpQuiet_nil ?_
      intro _ hw'
      obtain ⟨⟨dq, osq⟩, hw''⟩ := hw'
      subst hw''
      have hbw := HB.out.trans ((below_regrown wr dq osq).mono HB.out.size)
      clear c0 hb HV HA
      go_wp2_with fail
      go_ret
      exact ⟨ret_bool HF.out.symm, hbw⟩
    case pos =>
      rw [h1] at hv
      have HV := hid hv
      have HA := hid ha
      by_cases h2 : hasStr (ns.take j) n = true
      case pos =>
        have HF := hid (show lowFrom ns ns 0 = false by rw [HJ.out, HS.out, h1, h2]; rfl)
        rw [h2] at hm
        clear hv ha h1 h2
        go_wp2_with fail
        refine wp_region_quiet_below (by kernel_rfl) (by kernel_rfl) ?_
        repeat (go_big_quiet_step (first | exact HV.out _ _ | exact HA.out _ _))
        refine wpQuiet_nil ?_
        intro _ hw'
        obtain ⟨⟨dq, osq⟩, hw''⟩ := hw'
        subst hw''
        have hbw := HB.out.trans ((below_regrown wr dq osq).mono HB.out.size)
        clear c0 hb HV HA
        go_wp2_with fail
        go_ret
        exact ⟨ret_bool HF.out.symm, hbw⟩
      case neg =>
        replace h2 := (Bool.not_eq_true _).mp h2
        have HF := hid (show lowFrom ns ns 0 = lowFrom ns (ns.drop (j + 1)) (j + 1) by rw [HJ.out, HS.out, h1, h2]; rfl)
        rw [h2] at hm
        clear hv ha h1 h2
        go_wp2_with fail
        refine wp_region_quiet_below (by kernel_rfl) (by kernel_rfl) ?_
        repeat (go_big_quiet_step (first | exact HV.out _ _ | exact HA.out _ _))
        refine wpQuiet_nil ?_
        intro _ hw'
        obtain ⟨⟨dq, osq⟩, hw''⟩ := hw'
        subst hw''
        have hbw := HB.out.trans ((below_regrown wr dq osq).mono HB.out.size)
        clear c0 hb HV HA
        go_wp2_with fail
        go_roundw
        case rel => exact ⟨j + 1, by omega, by go_num, HF.out, hbw⟩
        case measure => simp [intOf]; omega

theorem strsAt_take {w : World} {b o : Nat} {ns : List ByteArray} (h : StrsAt w b o ns) (j : Nat) : StrsAt w b o (ns.take j) := fun i t hi => h i t (by
  rw [List.getElem?_take] at hi
  split at hi
  · exact hi
  · cases hi)
set_option maxHeartbeats 1000000 in
theorem impl_validFieldNames (ns : List ByteArray) (a : Option Addr) (c : Nat) (w : World) (hr : RdL w (Sr.ds ns) (.slice a ns.length c)) (hl4 : ns.length ≤ 1048576) :
    Calls Tryz.prog 104 #[.slice a ns.length c] w fun e w' => e = .returned (.bool (lowFrom ns ns 0 && decide (ns.length ≤ 3))) ∧ Below w.heap.size w w' := by
  obtain ⟨_, _, e, h2, h3, h4⟩ := hr.eSr
  simp only [Value.slice.injEq, true_and] at e
  obtain ⟨rfl, rfl⟩ := e
  have H4 := hid h4
  have hcap : ns.length ≤ c := h2
  clear hr h4 h2
  go_enter Tryz.func104, Tryz.ntmps104
  go_wp2_with fail
  go_loopw [7] (fun i wr => ∃ (j : Nat), j ≤ ns.length ∧ i = .int .i64 j ∧ Hid (lowFrom ns ns 0 = lowFrom ns (ns.drop j) j) ∧ Below w.heap.size w wr) (fun i _ => ns.length - (intOf i).toNat)
  case atStart => exact ⟨0, by omega, rfl, rfl, Below.refl _ _⟩
  case round =>
    obtain ⟨j, hj, rfl, HJ, hb⟩ := hrel
    by_cases hlt : j < ns.length
    case neg =>
      have HF := hid (show lowFrom ns ns 0 = true by rw [HJ.out, List.drop_eq_nil_of_le (by omega), lowFrom])
      by_cases h3 : ns.length ≤ 3
      all_goals
        first
          | (have g3 : decide ((ns.length : Int) ≤ 3) = true := decide_eq_true (by omega))
          | (have g3 : decide ((ns.length : Int) ≤ 3) = false := decide_eq_false (by omega))
        have HL := hid h3
        clear h3
        go_wp2_with fail
        go_ret
        exact ⟨ret_bool (by rw [HF.out]; simp [HL.out]), hb⟩
    case pos =>
    obtain ⟨b, o, rfl, hbl, hall⟩ := H4.out (by omega)
    obtain ⟨n, ht⟩ : ∃ t, ns[j]? = some t := ⟨_, List.getElem?_eq_getElem hlt⟩
    have c0 := (hb.cell (p := ⟨b, o + j, none⟩) hbl).trans (hall j n ht).1
    have hst : StrsAt w b o ns := fun i t hi => (hall i t hi).1
    clear hall H4
    have HS := hid (low_step ht)
    have hv := impl_IsLower n wr
    have ha := fun (W : World) (hW : Below w.heap.size w W) => slices_Contains b o c (ns.take j) n W (by rw [List.length_take]; omega) ((strsAt_take hst j).below hW hbl)
    simp only [List.length_take, Nat.min_eq_left hj] at ha
    have HB := hid hb
    clear ht hst
    by_cases h1 : isLowerB n = true
    case neg =>
      replace h1 := (Bool.not_eq_true _).mp h1
      have HF := hid (show lowFrom ns ns 0 = false by rw [HJ.out, HS.out, h1]; rfl)
      rw [h1] at hv
      have HV := hid hv
      clear hv ha h1 hb
      go_wp2_with fail
      refine HV.out.mono ?_
      rintro e w1 ⟨rfl, hb⟩
      have HB1 := hid (HB.out.trans (hb.mono HB.out.size))
      clear hb c0
      go_wp2_with fail
      go_ret
      exact ⟨ret_bool (by rw [HF.out]; rfl), HB1.out⟩
    case pos =>
      rw [h1] at hv
      have HV := hid hv
      by_cases h2 : hasStr (ns.take j) n = true
      all_goals
        first | rw [h2] at ha | rw [(Bool.not_eq_true _).mp h2] at ha
        have HA := hid ha
        first
          | have HF := hid (show lowFrom ns ns 0 = false by rw [HJ.out, HS.out, h1, h2]; rfl)
          | have HF := hid (show lowFrom ns ns 0 = lowFrom ns (ns.drop (j + 1)) (j + 1) by rw [HJ.out, HS.out, h1, (Bool.not_eq_true _).mp h2]; rfl)
        clear hv ha h1 h2 hb
        go_wp2_with fail
        refine HV.out.mono ?_
        rintro e w1 ⟨rfl, hb⟩
        have HB1 := hid (HB.out.trans (hb.mono HB.out.size))
        clear hb c0
        go_wp2_with fail
        refine (HA.out _ HB1.out).mono ?_
        rintro e w2 ⟨rfl, rfl⟩
        go_wp2_with fail
      · go_ret
        exact ⟨ret_bool (by rw [HF.out]; rfl), HB1.out⟩
      · go_roundw
        case rel => exact ⟨j + 1, by omega, by go_num, HF.out, HB1.out⟩
        case measure => simp [intOf]; omega
end Go.Proofs.YtikhofcjkcbpbaaGreatDoor
