/- Walks: the text of a core in the reference. No condition. -/
import Derived.Test.YtikhofcjkcbpbaaDoorTxP
import Derived.Test.YtikhofcjkcbpbaaDoorDeS
import Derived.Test.YtikhofcjkcbpbaaDoorCoValid
import Derived.BigQuiet
namespace Go.Proofs.YtikhofcjkcbpbaaDoor
open Go.ChangeShapes Go.WideShapes Go.ChangeAt Go.RowKit Go.BigFrame
open Go.Sort (grow)
set_option linter.unusedVariables false

theorem ret_str2 {w w' : World} {a b : ByteArray} (h : a = b) (hb : Below w.heap.size w w') : (Ending.returned (.string a) = .returned (.string b)) ∧ Below w.heap.size w w' := by subst h; exact ⟨rfl, hb⟩
set_option maxRecDepth 100000 in
set_option maxHeartbeats 1000000 in
theorem spec_List (ds : List Int) (a : Option Addr) (c : Nat) (w : World) (hl : ds.length ≤ 4) (hg : coData ds = true) (hr : RdL w (In.ds ds) (.slice a ds.length c)) :
    Calls Tryd.prog 46 #[.slice a ds.length c] w fun e w' => e = .returned (.string (decs ds)) ∧ Below w.heap.size w w' := by
  obtain ⟨_, _, e, h2, h3, h4⟩ := hr.eIn
  simp only [Value.slice.injEq, true_and] at e
  obtain ⟨rfl, rfl⟩ := e
  have H4 := hid h4
  have HG := hid (fun j x (h : ds[j]? = some x) => coData_get hg h)
  have HDS := hid (decs_size hg)
  have HTK := hid (show ∀ j, (decs (ds.take j)).size ≤ 48 from fun j => by
    have h1 : coData (ds.take j) = true := coData_yes _ fun i x hx => by
      rw [List.getElem?_take] at hx
      split at hx
      · by_cases hi : inR x 0 23 = true
        · exact hi
        · have := coData_no ds i x hx (by simpa using hi); rw [this] at hg; cases hg
      · cases hx
    have h2 := decs_size h1
    rw [List.length_take] at h2
    omega)
  clear hr h4 h2 h3 hg
  go_enter Tryd.func46, Tryd.ntmps46
  go_wp2_with fail
  go_loopw [3, 4] (fun t i wr => ∃ (j : Nat) (x : ByteArray), j ≤ ds.length ∧ i = .int .i64 j ∧ t = .string x ∧ x.size ≤ 48 ∧ Hid (x = decs (ds.take j)) ∧ Hid (Below w.heap.size w wr)) (fun _ i _ => ds.length - (intOf i).toNat)
  case atStart => exact ⟨0, ⟨#[]⟩, by omega, rfl, rfl, by decide, hid rfl, Below.refl _ _⟩
  case round =>
    obtain ⟨j, x, hj, rfl, rfl, hx, HX, HB⟩ := hrel
    by_cases hlt : j < ds.length
    case neg =>
      have HE := hid (show x = decs ds by rw [HX.out, List.take_of_length_le (by omega)])
      go_wp2_with fail
      go_ret
      exact ret_str2 HE.out HB.out
    case pos =>
      obtain ⟨b, o, rfl, hbl, hall⟩ := H4.out (by omega)
      obtain ⟨n, hn⟩ : ∃ n, ds[j]? = some n := ⟨_, List.getElem?_eq_getElem hlt⟩
      have d0 := (HB.out.cell (p := ⟨b, o + j, none⟩) hbl).trans (hall j n hn).1
      have hli := HG.out j n hn
      have HC := hid (spec_Decimal n (lint_lo hli).1 (lint_lo hli).2 wr)
      have hds : (dec n).size ≤ 11 := dec_size hli
      have hde : (⟨(Lib.itoa n).toArray⟩ : ByteArray) = dec n := rfl
      rw [hde.symm] at hds
      have HN := hid hn
      have e1 : (⟨#[32]⟩ : ByteArray).size = 1 := rfl
      clear hall hn hli hde
      by_cases hj0 : j = 0
      case pos =>
        subst hj0
        have e0 : x = ⟨#[]⟩ := by rw [HX.out, List.take_zero]; rfl
        subst e0
        rw [Nat.add_zero] at d0
        have HE := hid (show (⟨#[]⟩ : ByteArray) ++ ⟨(Lib.itoa n).toArray⟩ = decs (ds.take (0 + 1)) by rw [decs_one HN.out]; exact WideShapes.bytes_inj (by rw [data_app]; simp [dec]))
        have hes : ((⟨#[]⟩ : ByteArray) ++ ⟨(Lib.itoa n).toArray⟩).size ≤ 48 := by rw [HE.out]; exact HTK.out 1
        go_wp2_with (go_at_call 7; refine HC.out.mono ?_; rintro e w2 ⟨rfl, hb⟩; have HB2 := hid (HB.out.trans (hb.mono HB.out.size)); clear hb)
        go_roundw
        case rel => exact ⟨1, _, by omega, by go_num, rfl, hes, HE, HB2⟩
        case measure => first | (simp [intOf]; done) | (simp [intOf]; omega)
      case neg =>
        have gj : decide (0 < j) = true := decide_eq_true (by omega)
        have HE := hid (show (x ++ ⟨#[32]⟩) ++ ⟨(Lib.itoa n).toArray⟩ = decs (ds.take (j + 1)) by rw [decs_take HN.out (by omega), HX.out]; rfl)
        have hes : ((x ++ ⟨#[32]⟩) ++ ⟨(Lib.itoa n).toArray⟩).size ≤ 48 := by rw [HE.out]; exact HTK.out (j + 1)
        have e2 : (x ++ (⟨#[32]⟩ : ByteArray)).size = x.size + 1 := by rw [ByteArray.size_append, e1]
        go_wp2_with (go_at_call 7; refine HC.out.mono ?_; rintro e w2 ⟨rfl, hb⟩; have HB2 := hid (HB.out.trans (hb.mono HB.out.size)); clear hb)
        go_roundw
        case rel => exact ⟨j + 1, _, by omega, by go_num, rfl, hes, HE, HB2⟩
        case measure => first | (simp [intOf]; done) | (simp [intOf]; omega)
end Go.Proofs.YtikhofcjkcbpbaaDoor
