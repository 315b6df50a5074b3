/- FnExactFindData: for every input. No condition. -/
import Derived.Test.YtdllmbbdhfnikaaArDat
import Derived.Test.YtdllmbbdhfnikaaSzDat
import Derived.Test.YtdllmbbdhfnikaaToDat
import Derived.Test.YtdllmbbdhfnikaaEqDat
import Derived.Test.YtdllmbbdhfnikaaFindData
import Derived.Deep.RegionHeld3
namespace Go.Proofs.Ytdllmbbdhfnikaa
open Go.ChangeShapes Go.WideShapes Go.ChangeAt Go.RowKit
open Go.Sort (grow)
open Go.ChangeMaps (open_string)
set_option linter.unusedVariables false

set_option maxHeartbeats 1000000 in
theorem FnExactFindData_walk (ts_x : List Dat) (a_x : Option Addr) (c_x : Nat) (s : ByteArray) (w : World) (hr_x : RdL w (Dat.ds ts_x) (.slice a_x ts_x.length c_x)) (w_s : s.size ≤ maxLen) :
    Calls Try.prog 11 #[.slice a_x ts_x.length c_x, .string s] w fun e w' => e = .returned (.bool true) ∧ Below w.heap.size w w' := by
  have hbw0 : Below w.heap.size w w := Below.refl _ _
  have HX0 := hid (Boxes.nil w)
  by_cases hl_s : 1048576 < s.size
  case pos =>
    clear hr_x HX0
    go_enter Try.func11, Try.ntmps11
    go_wp2_with fail
    go_ret
    exact ⟨rfl, hbw0⟩
  case neg =>
    have hc0 := fun (W : World) (hb : Below w.heap.size w W) => szDats ts_x a_x c_x (1048576) W (hr_x.below hb) (by omega) (by omega)
    by_cases hp0 : ((Dat.bulks ts_x : Nat) : Int) ≤ 1048576
    case neg =>
      rw [purse_no hp0] at hc0
      have HC0 := hid hc0
      have HB0 := hid hbw0
      clear hbw0 hc0 hr_x
      go_enter Try.func11, Try.ntmps11
      go_wp2_with fail
      refine (HC0.out _ HB0.out).mono ?_
      rintro e w1 ⟨rfl, hb⟩
      have HB1 := hid (HB0.out.trans (hb.mono HB0.out.size))
      have HX1 := hid (HX0.out.below hb)
      clear hb HC0
      go_wp2_with fail
      go_ret
      exact ⟨rfl, HB1.out⟩
    case pos =>
      rw [purse_ok hp0] at hc0
      have HM_x : Hid (Dat.bulks ts_x ≤ 1048576) := by show _ ≤ _; omega
      have HC0 := hid hc0
      have HB0 := hid hbw0
      have R_x := hid hr_x
      clear hbw0 hc0 hr_x
      go_enter Try.func11, Try.ntmps11
      go_wp2_with fail
      refine (HC0.out _ HB0.out).mono ?_
      rintro e w1 ⟨rfl, hb⟩
      have HB1 := hid (HB0.out.trans (hb.mono HB0.out.size))
      have HX1 := hid (HX0.out.below hb)
      clear hb HC0
      have R_x := hid (R_x.out.below HB1.out)
      go_wp2_with fail
      refine (toDats ts_x a_x c_x _ HM_x.out ?_).mono ?_
      · exact R_x.out
      rintro e v0 ⟨a_xs, c_xs, rfl, ho_xs, hb⟩
      have HB2 := hid (HB1.out.trans (hb.mono HB1.out.size))
      have HX2 := hid (HX1.out.below hb)
      have R_x := hid (R_x.out.below hb)
      have C_xs := hid ho_xs.rd
      clear hb ho_xs
      go_wp2_with fail
      refine (spec_FindData _ _ _ _ _ ?_ ?_).mono ?_
      · exact HM_x.out
      · exact C_xs.out
      rintro e vs ⟨rfl, hb⟩
      have HB3 := hid (HB2.out.trans (hb.mono HB2.out.size))
      have HX3 := hid (HX2.out.below hb)
      have R_x := hid (R_x.out.below hb)
      have C_xs := hid (C_xs.out.below hb)
      clear hb
      go_wp2_with fail
      refine (toDats ts_x a_x c_x _ HM_x.out ?_).mono ?_
      · exact R_x.out
      rintro e x0 ⟨a_xx, c_xx, rfl, ho_xx, hb⟩
      have HB4 := hid (HB3.out.trans (hb.mono HB3.out.size))
      have HX4 := hid (HX3.out.below hb)
      have R_x := hid (R_x.out.below hb)
      have C_xx := hid ho_xx.rd
      clear hb ho_xx
      go_wp2_with fail
      refine (impl_FindData _ _ _ _ _ ?_ ?_).mono ?_
      · exact HM_x.out
      · exact C_xx.out
      rintro e vi ⟨rfl, hb⟩
      have HB5 := hid (HB4.out.trans (hb.mono HB4.out.size))
      have HX5 := hid (HX4.out.below hb)
      have R_x := hid (R_x.out.below hb)
      have C_xx := hid (C_xx.out.below hb)
      clear hb
      go_wp2_with fail
      refine (toDats ts_x a_x c_x _ HM_x.out ?_).mono ?_
      · exact R_x.out
      rintro e y0a ⟨a_xe, c_xe, rfl, ho_xe, hb⟩
      have HB6 := hid (HB5.out.trans (hb.mono HB5.out.size))
      have HX6 := hid (HX5.out.below hb)
      have R_x := hid (R_x.out.below hb)
      have C_xx := hid (C_xx.out.below hb)
      have C_xe := hid ho_xe.rd
      clear hb ho_xe
      go_wp2_with fail
      refine (eqDats _ _ _ _ _ _ ?_ ?_).mono ?_
      · exact C_xx.out
      · exact C_xe.out
      rintro e y0b ⟨rfl, hb⟩
      have HB7 := hid (HB6.out.trans (hb.mono HB6.out.size))
      have HX7 := hid (HX6.out.below hb)
      have R_x := hid (R_x.out.below hb)
      have C_xx := hid (C_xx.out.below hb)
      have C_xe := hid (C_xe.out.below hb)
      clear hb
      go_wp2_with fail
      go_ret
      exact ⟨rfl, HB7.out⟩

set_option maxRecDepth 100000 in
theorem FnExactFindData_lifted (os : Os) (started : os.Started) (H : Type) (enc : TypeId × Value → H) :
    ReturnsInHanded {} Try.checked os 11 .any (Rows.fnExactFindDataSpec.pre6 enc Try.prog Try.f11 Rows.fnExactFindDataRow.domain false) (Rows.fnExactFindDataSpec.post enc Try.prog Try.f11 false true false false) := by
  refine law_lifted (C := Try.checked) (tb := 4) own started (by kernel_rfl) Try.func11 laidOut (by intro t ht; rw [Try.params11] at ht; simp at ht; rcases ht with rfl | rfl <;> exact ⟨by kernel_rfl, of_decide_eq_true (by kernel_rfl)⟩) rfl Try.underlying4 rfl ?_
    (ChangeSpec.witness6 (enc := enc) (C := Try.checked) false ⟨#[], #[.slice none 0 0, .string ⟨#[]⟩], []⟩ 8 (by kernel_rfl) (by kernel_rfl) (by kernel_rfl) (by kernel_rfl)) ?_
  · intro ds hds
    rw [Try.params11] at hds
    match ds, hds with
    | [_, _], _ => exact ⟨rfl, rfl, rfl⟩
  intro W base args ds p hval0 hA0 hlt
  have hval : ∀ (j : Nat) t v, Try.f11.params[j]? = some t → args[j]? = some v → Value.okWide Try.prog W .any base t v := hval0
  have hA : DataW.TrodAll enc Try.prog W 0 (fun _ => true) true Try.f11.params.toList args.toList ds p := hA0
  rw [Try.params11] at hA hval
  clear hval0 hA0
  obtain ⟨v0, vs0, d0, ds0, p0, q0, hargs0, rfl, rfl, h0, r0⟩ := trodAll_cons hA
  obtain ⟨v1, vs1, d1, ds1, p1, q1, hargs1, rfl, rfl, h1, r1⟩ := trodAll_cons r0
  obtain ⟨rfl, rfl, rfl⟩ := trodAll_nil r1
  subst hargs1
  obtain rfl : args = #[v0, v1] := by cases args; simp_all
  obtain ⟨ts_x, a_x, c_x, rfl, hr_x⟩ := arg_Dats (hval 0 40 v0 rfl rfl) h0
  obtain ⟨s, rfl, rfl, rfl, w_s⟩ := open_string Try.underlying9 (hval 1 9 v1 rfl rfl) h1
  exact FnExactFindData_walk ts_x a_x c_x s W hr_x w_s

theorem FnExactFindData_holds : Rows.FnExactFindDataSaid :=
  OpenClaim.holds_of_wide 11 Try.f11 rfl rfl rfl rfl rfl rfl rfl ⟨rfl, rfl, rfl, rfl, rfl⟩ rfl rfl rfl rfl rfl (by kernel_rfl) Try.func11 (by kernel_rfl)
    (of_decide_eq_true (by kernel_rfl)) (by unfold Func.isWrapper; first | (rw [if_pos (by decide +kernel)]; kernel_rfl) | (rw [if_neg (by decide +kernel)]; exact ⟨rfl, rfl⟩))
    (fun os started H enc _ => FnExactFindData_lifted os started H enc)
end Go.Proofs.Ytdllmbbdhfnikaa
