/- Walks of the laws' helpers: the sizes of slices of scalars. No condition. -/
import Derived.Test.YtikhofcjkcbpbaaGreatDoorSc
import Derived.Lib.QuietBelow
namespace Go.Proofs.YtikhofcjkcbpbaaGreatDoor
open Go.ChangeShapes Go.WideShapes Go.ChangeAt Go.RowKit
open Go.Sort (grow)
set_option linter.unusedVariables false

theorem In.bulks_eq : ∀ ts : List Int, In.bulks ts = ts.length
  | [] => rfl
  | t :: ts => by simp [In.bulks, In.bulk, In.bulks_eq ts]; omega
theorem Bo.bulks_eq : ∀ ts : List Bool, Bo.bulks ts = ts.length
  | [] => rfl
  | t :: ts => by simp [Bo.bulks, Bo.bulk, Bo.bulks_eq ts]; omega

theorem szSrs (ts : List ByteArray) (a : Option Addr) (c : Nat) (left : Int) (w : World) (hr : RdL w (Sr.ds ts) (.slice a ts.length c)) (h0 : 0 ≤ left) (h1 : left ≤ 1048576) :
    Calls Tryz.prog 16 #[.slice a ts.length c, .int .i64 left] w fun e w' => e = .returned (.int .i64 (purse left (Sr.bulks ts))) ∧ Below w.heap.size w w' := by
  obtain ⟨_, _, e, h2, h3, h4⟩ := hr.eSr
  simp only [Value.slice.injEq, true_and] at e
  obtain ⟨rfl, rfl⟩ := e
  have hl := Sr.bulks_length ts
  have H4 := hid h4
  clear hr h4
  by_cases hs : left < ts.length
  · rw [purse_no (by omega)]
    go_enter Tryz.func16, Tryz.ntmps16
    go_wp2_with fail
    go_ret
    exact ⟨rfl, Below.refl _ _⟩
  · have hd0 : decide (left - (ts.length : Int) < 0) = false := by simp; omega
    go_enter Tryz.func16, Tryz.ntmps16
    go_wp2_with fail
    go_loop [1, 5] (fun l i => ∃ (j : Nat) (L : Int), j ≤ ts.length ∧ i = .int .i64 j ∧ l = .int .i64 L ∧ Hid (L + (Sr.bulks (ts.take j) + ts.length : Nat) = left + j) ∧ 0 ≤ L ∧ L ≤ 1048576) (fun _ i => ts.length - (intOf i).toNat)
    case atStart => exact ⟨0, left - ts.length, by omega, rfl, rfl, by show _ = _; simp [Sr.bulks], by omega, by omega⟩
    case round =>
      obtain ⟨j, L, hj, rfl, rfl, HL, hL0, hL1⟩ := hrel
      by_cases hlt : j < ts.length
      · obtain ⟨b, o, rfl, hbl, hall⟩ := H4.out (by omega)
        obtain ⟨t, ht⟩ : ∃ t, ts[j]? = some t := ⟨_, List.getElem?_eq_getElem hlt⟩
        obtain ⟨d0, hz⟩ := hall j t ht
        clear hall H4
        have hst := Sr.bulks_take ts j _ ht
        have hle := Sr.bulks_le ts (j + 1)
        have hbt : Sr.bulk t = t.size := rfl
        have HT := hid ht
        have HS := hid hst
        have HB := hid hbt
        clear ht hst hbt
        by_cases hp : (t.size : Int) ≤ L
        · go_wp2_with fail
          go_round
          case rel => exact ⟨j + 1, _, by omega, by go_num, rfl, by show _ = _; have := HL.out; have := HS.out; have := HB.out; omega, by omega, by omega⟩
          case measure => simp [intOf]; omega
        · go_wp2_with fail
          go_ret
          exact ⟨ret_int (by rw [purse_no (by have := HL.out; have := HS.out; have := HB.out; omega)]), Below.refl _ _⟩
      · obtain rfl : j = ts.length := by omega
        rw [List.take_length] at HL
        go_wp2_with fail
        go_ret
        exact ⟨ret_int (by rw [purse_ok (by have := HL.out; omega)]; have := HL.out; omega), Below.refl _ _⟩
end Go.Proofs.YtikhofcjkcbpbaaGreatDoor
