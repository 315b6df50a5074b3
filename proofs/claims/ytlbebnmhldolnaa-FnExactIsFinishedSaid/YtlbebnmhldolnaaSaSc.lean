/- Walks: comparisons of slices of scalars, in the program and in the reference. -/
import Derived.Test.YtlbebnmhldolnaaSc
import Derived.Test.YtlbebnmhldolnaaThree
import Derived.Lib.QuietBelow
namespace Go.Proofs.Ytlbebnmhldolnaa
open Go.ChangeShapes Go.WideShapes Go.ChangeAt Go.RowKit
open Go.Sort (grow)
set_option linter.unusedVariables false

theorem list_no {α : Type} [DecidableEq α] {ts us : List α} {j : Nat} {t u : α} (h : ts[j]? = some t) (h' : us[j]? = some u) (e : t ≠ u) : decide (ts = us) = false := by
  simp only [decide_eq_false_iff_not]
  rintro rfl
  exact e (Option.some.inj (h.symm.trans h'))
theorem list_yes {α : Type} [DecidableEq α] {ts us : List α} (h : ts.length = us.length) (e : ∀ (j : Nat) t u, ts[j]? = some t → us[j]? = some u → t = u) : decide (ts = us) = true := by
  simp only [decide_eq_true_eq]
  refine List.ext_getElem? fun i => ?_
  by_cases hi : i < ts.length
  · have a := List.getElem?_eq_getElem hi
    have b := List.getElem?_eq_getElem (show i < us.length by omega)
    rw [a, b, e i _ _ a b]
  · rw [List.getElem?_eq_none (by omega), List.getElem?_eq_none (by omega)]
theorem list_len {α : Type} [DecidableEq α] {ts us : List α} (h : ts.length ≠ us.length) : decide (ts = us) = false := by
  simp only [decide_eq_false_iff_not]
  rintro rfl
  exact h rfl

theorem impl_sameIn (ts us : List Int) (a a' : Option Addr) (c c' : Nat) (w : World) (hr : RdL w (In.ds ts) (.slice a ts.length c)) (hr' : RdL w (In.ds us) (.slice a' us.length c')) :
    Calls Try.prog 134 #[.slice a ts.length c, .slice a' us.length c'] w fun e w' => e = .returned (.bool (decide (ts = us))) ∧ Below w.heap.size w w' := by
  obtain ⟨_, _, e, h2, h3, h4⟩ := hr.eIn
  simp only [Value.slice.injEq, true_and] at e
  obtain ⟨rfl, rfl⟩ := e
  obtain ⟨_, _, e, h2', h3', h4'⟩ := hr'.eIn
  simp only [Value.slice.injEq, true_and] at e
  obtain ⟨rfl, rfl⟩ := e
  have H4 := hid h4
  have H4' := hid h4'
  clear hr h4 hr' h4'
  by_cases hl : ts.length = us.length
  · have hlb : ((ts.length : Int) != (us.length : Int)) = false := by simp [hl]
    have HL := hid hl
    clear hl
    go_enter Try.func134, Try.ntmps134
    go_wp2_with fail
    go_loopw [5, 13] (fun _ i wr => ∃ (j : Nat), j ≤ ts.length ∧ i = .int .i64 j ∧ Hid (∀ (i : Nat) t u, i < j → ts[i]? = some t → us[i]? = some u → t = u) ∧ Below w.heap.size w wr) (fun _ i _ => ts.length - (intOf i).toNat)
    case atStart => exact ⟨0, by omega, rfl, fun i t u hi => absurd hi (by omega), Below.refl _ _⟩
    case round =>
      obtain ⟨j, hj, rfl, HJ, hb⟩ := hrel
      by_cases hlt : j < ts.length
      · have hlt' : j < us.length := by have := HL.out; omega
        obtain ⟨b, o, rfl, hbl, hall⟩ := H4.out (by omega)
        obtain ⟨b', o', rfl, hbl', hall'⟩ := H4'.out (by omega)
        obtain ⟨t, ht⟩ : ∃ t, ts[j]? = some t := ⟨_, List.getElem?_eq_getElem hlt⟩
        obtain ⟨u, hu⟩ : ∃ u, us[j]? = some u := ⟨_, List.getElem?_eq_getElem hlt'⟩
        obtain ⟨q0, hfc⟩ := hall j t ht
        obtain ⟨p0, -⟩ := hall' j u hu
        have HT := hid ht
        have HU := hid hu
        clear hall H4 hall' H4' ht hu
        have d0 := cell_regrown ((hb.cell (p := ⟨b, o + j, none⟩) hbl).trans q0)
        have d1 := cell_regrown ((hb.cell (p := ⟨b', o' + j, none⟩) hbl').trans p0)
        clear q0 p0
        by_cases hq : t = u
        · have hqb : (t != u) = false := by simp [hq]
          have HQ := hid hq
          clear hq
          go_wp2_with fail
          refine wp_region_quiet_below (by kernel_rfl) (by kernel_rfl) ?_
          repeat (quiet_step (fail))
          refine wpQuiet_nil ?_
          intro _ hw'
          obtain ⟨⟨dq, osq⟩, hw''⟩ := hw'
          subst hw''
          have hbq := hb.trans ((below_regrown wr dq osq).mono hb.size)
          clear d0 d1
          go_wp2_with fail
          go_roundw
          case rel =>
            refine ⟨j + 1, by omega, by go_num, fun i t u hi h1 h2 => ?_, hbq⟩
            rcases Nat.lt_succ_iff_lt_or_eq.1 hi with hi | rfl
            · exact HJ.out i t u hi h1 h2
            · obtain rfl := Option.some.inj (h1.symm.trans HT.out)
              obtain rfl := Option.some.inj (h2.symm.trans HU.out)
              exact HQ.out
          case measure => simp [intOf]; omega
        · have hqb : (t != u) = true := by simp [hq]
          have HQ := hid hq
          clear hq
          go_wp2_with fail
          refine wp_region_quiet_below (by kernel_rfl) (by kernel_rfl) ?_
          repeat (quiet_step (fail))
          refine wpQuiet_nil ?_
          intro _ hw'
          obtain ⟨⟨dq, osq⟩, hw''⟩ := hw'
          subst hw''
          have hbq := hb.trans ((below_regrown wr dq osq).mono hb.size)
          clear d0 d1
          go_wp2_with fail
          go_ret
          exact ⟨ret_bool (list_no HT.out HU.out HQ.out).symm, hbq⟩
      · go_wp2_with fail
        go_ret
        exact ⟨ret_bool (list_yes HL.out (fun i t u h1 h2 => HJ.out i t u (by have := (List.getElem?_eq_some_iff.1 h1).1; omega) h1 h2)).symm, hb⟩
  · have hlb : ((ts.length : Int) != (us.length : Int)) = true := by simp; omega
    rw [list_len hl]
    clear hl
    go_enter Try.func134, Try.ntmps134
    go_wp2_with fail
    go_ret
    exact ⟨rfl, Below.refl _ _⟩

end Go.Proofs.Ytlbebnmhldolnaa
