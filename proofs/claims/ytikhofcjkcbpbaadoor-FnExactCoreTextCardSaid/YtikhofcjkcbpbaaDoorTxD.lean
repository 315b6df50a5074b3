/- Walks: the text of a core in the program. No condition. -/
import Derived.Test.YtikhofcjkcbpbaaDoorStL
import Derived.Test.YtikhofcjkcbpbaaDoorTxL
import Derived.Test.YtikhofcjkcbpbaaDoorDeI
import Derived.Test.YtikhofcjkcbpbaaDoorCoFits
import Derived.BigQuiet
namespace Go.Proofs.YtikhofcjkcbpbaaDoor
open Go.ChangeShapes Go.WideShapes Go.ChangeAt Go.RowKit Go.BigFrame
open Go.Sort (grow)
set_option linter.unusedVariables false

theorem szs_append (a b : List ByteArray) : szs (a ++ b) = szs a + szs b := by
  induction a with
  | nil => simp [szs]
  | cons x r ih => simp only [List.cons_append, szs, ih]; omega
theorem decs_join (ds : List Int) : joinS blank (ds.map dec) = decs ds := by cases ds <;> rfl
set_option maxRecDepth 100000 in
set_option maxHeartbeats 1000000 in
theorem impl_decimals (ds : List Int) (a : Option Addr) (c : Nat) (w : World) (hp : Pow w) (hl : ds.length ≤ 4) (hg : coData ds = true) (hr : RdL w (In.ds ds) (.slice a ds.length c)) :
    Calls Tryd.prog 51 #[.slice a ds.length c] w fun e w' => e = .returned (.string (decs ds)) ∧ Below w.heap.size w w' := by
  obtain ⟨_, _, e, h2, h3, h4⟩ := hr.eIn
  simp only [Value.slice.injEq, true_and] at e
  obtain ⟨rfl, rfl⟩ := e
  have H4 := hid h4
  have HG := hid (fun j x (h : ds[j]? = some x) => coData_get hg h)
  have HSZ := hid (szs_dec hg)
  have HP := hid hp
  clear hr h4 h2 h3 hg hp
  go_enter Tryd.func51, Tryd.ntmps51
  go_wp2_with fail
  go_loopw [3, 8] (fun t i wr => ∃ (j : Nat) (v0 : Value), j ≤ ds.length ∧ i = .int .i64 j ∧ v0 = t ∧ Hid (OwnStr wr w.heap.size v0 ((ds.take j).map dec)) ∧ Hid (Below w.heap.size w wr)) (fun _ i _ => ds.length - (intOf i).toNat)
  case atStart => exact ⟨0, .slice none 0 0, by omega, rfl, rfl, World.ownsRow_nil _ _ _ _, Below.refl _ _⟩
  case round =>
    obtain ⟨j, v0, hj, rfl, rfl, HO, HB⟩ := hrel
    by_cases hlt : j < ds.length
    case neg =>
      have hzj : ds.take j = ds := List.take_of_length_le (by omega)
      rw [hzj] at HO
      have HC := hid (join_own (sep := blank) HO.out (by rw [List.length_map]; omega) (by decide) (by have := HSZ.out; omega))
      rw [decs_join] at HC
      clear hzj
      go_wp2_with fail
      refine HC.out.mono ?_
      rintro e w1 ⟨rfl, hb⟩
      have HB1 := hid (HB.out.trans (hb.mono HB.out.size))
      clear hb
      go_wp2_with fail
      go_ret
      exact ⟨rfl, HB1.out⟩
    case pos =>
      obtain ⟨b, o, rfl, hbl, hall⟩ := H4.out (by omega)
      obtain ⟨n, hn⟩ : ∃ n, ds[j]? = some n := ⟨_, List.getElem?_eq_getElem hlt⟩
      have d0 := (HB.out.cell (p := ⟨b, o + j, none⟩) hbl).trans (hall j n hn).1
      have hli := HG.out j n hn
      have HC := hid (impl_Decimal n (lint_lo hli).1 (lint_lo hli).2 wr (HP.out.below HB.out))
      have HSN := hid (show (ds.take (j + 1)).map dec = (ds.take j).map dec ++ [⟨(Lib.itoa n).toArray⟩] by
        obtain ⟨hlt', he⟩ := List.getElem?_eq_some_iff.1 hn
        rw [List.take_succ_eq_append_getElem hlt', he, List.map_append]; rfl)
      clear hall hn hli
      go_wp2_with fail
      refine HC.out.mono ?_
      rintro e w1 ⟨rfl, hb⟩
      have HO1 := hid (ownsRow.below HO.out hb)
      have HB1 := hid (HB.out.trans (hb.mono HB.out.size))
      clear hb
      go_wp2_with (at_builtin; refine wpList_append_s1 rfl _ _ rfl (w.heap.size) _ ((ds.take j).map dec) ⟨(Lib.itoa n).toArray⟩ ⟨w1.heap.size, 0, none⟩ rfl rfl (HO1.out.alloc _) (one_new _ _ _) ?c1 ?c2 ?_)
      case c1 => simp; omega
      case c2 => have := HB1.out.size; simp; omega
      intro v2 w2 ho2 hg2
      have HO2 := hid (show OwnStr w2 (w.heap.size) v2 (((ds.take j).map dec) ++ [⟨(Lib.itoa n).toArray⟩]) by simpa [OwnStr] using ho2)
      have HB2 := hid (OwnStr.next (HB1.out.alloc (by have := HB1.out.size; omega) _) (by have := HB1.out.size; simp; omega) (HO1.out.alloc _) hg2)
      clear ho2 hg2
      go_wp2_with fail
      go_roundw
      case rel => exact ⟨j + 1, v2, by omega, by go_num, rfl, by rw [HSN.out]; exact HO2.out, HB2⟩
      case measure => first | (simp [intOf]; done) | (simp [intOf]; omega)
end Go.Proofs.YtikhofcjkcbpbaaDoor
