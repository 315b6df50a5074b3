/- Walks: names in lists, a node's form. -/
import Derived.Test.YtikhofcjkcbpbaaGreatDoorTmPlain
import Derived.Test.YtikhofcjkcbpbaaGreatDoorTake
import Derived.Test.YtikhofcjkcbpbaaGreatDoorTySame
import Derived.Lib.QuietBelow
import Derived.BigQuiet
namespace Go.Proofs.YtikhofcjkcbpbaaGreatDoor
open Go.ChangeShapes Go.WideShapes Go.ChangeAt Go.RowKit Go.BigFrame
open Go.Sort (grow)
set_option linter.unusedVariables false

theorem spec_l03At (ns : List ByteArray) (a : Option Addr) (c : Nat) (s : ByteArray) (w : World) (hr : RdL w (Sr.ds ns) (.slice a ns.length c)) :
    Calls Tryz.prog 137 #[.slice a ns.length c, .string s] w fun e w' => e = .returned (.int .i64 (lastAt s ns)) ∧ w = w' := by
  obtain ⟨_, _, e, h2, h3, h4⟩ := hr.eSr
  simp only [Value.slice.injEq, true_and] at e
  obtain ⟨rfl, rfl⟩ := e
  have hlen : ns.length ≤ 9223372036854775807 := Nat.le_trans h2 h3
  have H4 := hid h4
  clear hr h4 h2 h3
  go_enter Tryz.func137, Tryz.ntmps137
  go_wp2_with fail
  go_loopw [5] (fun i wr => ∃ (j : Nat) (x : Int), j ≤ ns.length ∧ x = (j : Int) - 1 ∧ i = .int .i64 x ∧ Hid (∀ (i : Nat) t, j ≤ i → ns[i]? = some t → t ≠ s) ∧ w = wr) (fun i _ => (intOf i + 1).toNat)
  case atStart => exact ⟨ns.length, (ns.length : Int) - 1, by omega, rfl, by go_num, fun i t hi hti => absurd (List.getElem?_eq_some_iff.1 hti).1 (by omega), rfl⟩
  case round =>
    obtain ⟨j, x, hj, hx, rfl, HJ, rfl⟩ := hrel
    rcases j with _ | m
    · obtain rfl : x = -1 := by simpa using hx
      clear hx
      go_wp2_with fail
      go_ret
      exact ⟨ret_int (by rw [lastAt_no s ns fun i t hti => HJ.out i t (by omega) hti]), rfl⟩
    · obtain rfl : x = (m : Int) := by omega
      clear hx
      have hlt : m < ns.length := by omega
      obtain ⟨b, o, rfl, hbl, hall⟩ := H4.out (by omega)
      obtain ⟨t, ht⟩ : ∃ t, ns[m]? = some t := ⟨_, List.getElem?_eq_getElem hlt⟩
      have c0 := hall m t ht
      clear hall H4
      have HT := hid ht
      by_cases hq : t = s
      · have hb := bytes_eq hq
        have HQ := hid hq
        clear hq ht
        go_wp2_with fail
        go_ret
        exact ⟨ret_int (by rw [lastAt_yes s ns m (by rw [HT.out, HQ.out]) fun i t hi hti => HJ.out i t hi hti]), rfl⟩
      · have hb := bytes_ne hq
        have HQ := hid hq
        clear hq ht
        go_wp2_with fail
        go_roundw
        case rel => exact ⟨m, (m : Int) - 1, by omega, rfl, by go_num, fun i t hi hti => (Nat.eq_or_lt_of_le hi).elim (fun he => by subst he; obtain rfl := Option.some.inj (hti.symm.trans HT.out); exact HQ.out) (fun hi => HJ.out i t hi hti), by first | rfl | trivial⟩
        case measure => simp [intOf]

theorem spec_l03Kids (k : Int) (w : World) : Calls Tryz.prog 99 #[.int .i64 k] w fun e w' => e = .returned (.tuple #[.int .i64 (tmN k).1, .int .i64 (tmN k).2]) ∧ w = w' := by
  by_cases h1 : k = 1
  · subst h1
    have hn : tmN 1 = (0, 0) := rfl
    rw [hn]
    clear hn
    go_enter Tryz.func99, Tryz.ntmps99
    go_wp2_with fail
    go_ret2
    exact ⟨rfl, rfl⟩
  by_cases h2 : k = 2
  · subst h2
    have hn : tmN 2 = (0, 0) := rfl
    rw [hn]
    clear hn
    go_enter Tryz.func99, Tryz.ntmps99
    go_wp2_with fail
    go_ret2
    exact ⟨rfl, rfl⟩
  by_cases h3 : k = 3
  · subst h3
    have hn : tmN 3 = (2, 2) := rfl
    rw [hn]
    clear hn
    go_enter Tryz.func99, Tryz.ntmps99
    go_wp2_with fail
    go_ret2
    exact ⟨rfl, rfl⟩
  by_cases h4 : k = 4
  · subst h4
    have hn : tmN 4 = (1, 1) := rfl
    rw [hn]
    clear hn
    go_enter Tryz.func99, Tryz.ntmps99
    go_wp2_with fail
    go_ret2
    exact ⟨rfl, rfl⟩
  by_cases h5 : k = 5
  · subst h5
    have hn : tmN 5 = (2, 2) := rfl
    rw [hn]
    clear hn
    go_enter Tryz.func99, Tryz.ntmps99
    go_wp2_with fail
    go_ret2
    exact ⟨rfl, rfl⟩
  by_cases h6 : k = 6
  · subst h6
    have hn : tmN 6 = (1, 1) := rfl
    rw [hn]
    clear hn
    go_enter Tryz.func99, Tryz.ntmps99
    go_wp2_with fail
    go_ret2
    exact ⟨rfl, rfl⟩
  by_cases h7 : k = 7
  · subst h7
    have hn : tmN 7 = (2, 2) := rfl
    rw [hn]
    clear hn
    go_enter Tryz.func99, Tryz.ntmps99
    go_wp2_with fail
    go_ret2
    exact ⟨rfl, rfl⟩
  by_cases h8 : k = 8
  · subst h8
    have hn : tmN 8 = (0, 3) := rfl
    rw [hn]
    clear hn
    go_enter Tryz.func99, Tryz.ntmps99
    go_wp2_with fail
    go_ret2
    exact ⟨rfl, rfl⟩
  by_cases h9 : k = 9
  · subst h9
    have hn : tmN 9 = (2, 5) := rfl
    rw [hn]
    clear hn
    go_enter Tryz.func99, Tryz.ntmps99
    go_wp2_with fail
    go_ret2
    exact ⟨rfl, rfl⟩
  by_cases h10 : k = 10
  · subst h10
    have hn : tmN 10 = (1, 1) := rfl
    rw [hn]
    clear hn
    go_enter Tryz.func99, Tryz.ntmps99
    go_wp2_with fail
    go_ret2
    exact ⟨rfl, rfl⟩
  by_cases h11 : k = 11
  · subst h11
    have hn : tmN 11 = (3, 3) := rfl
    rw [hn]
    clear hn
    go_enter Tryz.func99, Tryz.ntmps99
    go_wp2_with fail
    go_ret2
    exact ⟨rfl, rfl⟩
  have g1 : (k == 1) = false := by simp [h1]
  have g2 : (k == 2) = false := by simp [h2]
  have g3 : (k == 3) = false := by simp [h3]
  have g4 : (k == 4) = false := by simp [h4]
  have g5 : (k == 5) = false := by simp [h5]
  have g6 : (k == 6) = false := by simp [h6]
  have g7 : (k == 7) = false := by simp [h7]
  have g8 : (k == 8) = false := by simp [h8]
  have g9 : (k == 9) = false := by simp [h9]
  have g10 : (k == 10) = false := by simp [h10]
  have g11 : (k == 11) = false := by simp [h11]
  have hn : tmN k = (0, -1) := by simp [tmN, h1, h2, h3, h4, h5, h6, h7, h8, h9, h10, h11]
  rw [hn]
  clear hn h1 h2 h3 h4 h5 h6 h7 h8 h9 h10 h11
  go_enter Tryz.func99, Tryz.ntmps99
  go_wp2_with fail
  go_ret2
  exact ⟨rfl, rfl⟩

theorem spec_l03NoType (k1 : Int) (n1 : ByteArray) (ks1 : List Ty) (aks1 : Option Addr) (cks1 : Nat) (w : World) : Calls Tryz.prog 123 #[.agg #[.int .i64 k1, .string n1, .slice aks1 ks1.length cks1]] w fun e w' => e = .returned (.bool (tyNone (Ty.mk k1 n1 ks1))) ∧ Below w.heap.size w w' := by
  have HB0 := hid ((Below.refl w.heap.size w).alloc (Nat.le_refl _) (.cells #[.int .i64 k1, .string n1, .slice aks1 ks1.length cks1] 33))
  have HE := hid (show tyNone (Ty.mk k1 n1 ks1) = (decide (k1 = 0) && (n1.toList.isEmpty && decide (ks1.length = 0))) from rfl)
  by_cases h0 : k1 = 0
  case neg =>
    have g0 : (k1 == 0) = false := by simp [h0]
    have HF := hid (show tyNone (Ty.mk k1 n1 ks1) = false by rw [HE.out]; simp [h0])
    clear h0 HE
    go_enter Tryz.func123, Tryz.ntmps123
    go_wp2_with fail
    go_ret
    exact ⟨ret_bool HF.out.symm, HB0.out⟩
  case pos =>
    have g0 : (k1 == 0) = true := by simp [h0]
    by_cases h1 : n1.toList.isEmpty = true
    case neg =>
      replace h1 := (Bool.not_eq_true _).mp h1
      have g1 : (n1.toList == []) = false := by simpa [List.isEmpty_eq_false_iff] using h1
      have HF := hid (show tyNone (Ty.mk k1 n1 ks1) = false by rw [HE.out, h1]; simp)
      clear h0 HE h1
      go_enter Tryz.func123, Tryz.ntmps123
      go_wp2_with fail
      go_ret
      exact ⟨ret_bool HF.out.symm, HB0.out⟩
    case pos =>
      have g1 : (n1.toList == []) = true := by simpa [List.isEmpty_iff] using h1
      have HF := hid (show tyNone (Ty.mk k1 n1 ks1) = decide (ks1.length = 0) by rw [HE.out, h1]; simp [h0])
      by_cases h2 : ks1.length = 0
      all_goals
        first
          | (have g2 : ((ks1.length : Int) == 0) = true := beq_iff_eq.2 (by omega))
          | (have g2 : ((ks1.length : Int) == 0) = false := beq_eq_false_iff_ne.2 (by omega))
        have HL := hid h2
        clear h0 HE h1 h2
        go_enter Tryz.func123, Tryz.ntmps123
        go_wp2_with fail
        go_ret
        exact ⟨ret_bool (by rw [HF.out]; simp [HL.out]), HB0.out⟩

theorem RdTyNone (w : World) : RdS w (Ty.d (.mk 0 (⟨#[]⟩ : ByteArray) [])) [.int .i64 0, .string (⟨#[]⟩ : ByteArray), .slice none ([] : List Ty).length 0] := by
  refine ⟨[], ?_⟩
  simp only [Ty.d, Ty.ds]
  unfold Rd RdAll
  refine ⟨[.int .i64 0], _, [], [], rfl, rfl, by unfold Rd; exact ⟨rfl, rfl, by omega, by omega⟩, ?_⟩
  unfold RdAll
  refine ⟨[.string (⟨#[]⟩ : ByteArray)], _, [], [], rfl, rfl, by unfold Rd; exact ⟨rfl, rfl, by decide⟩, ?_⟩
  unfold RdAll
  exact ⟨[.slice none 0 0], [], [], [], rfl, rfl, Rd.nil_mk (by omega), RdAll.nil⟩
theorem toList_nil : (⟨#[]⟩ : ByteArray).toList = [] := by first | rfl | simp | kernel_rfl
theorem tyEqb_none : ∀ t : Ty, Ty.eqb t (.mk 0 (⟨#[]⟩ : ByteArray) []) = tyNone t
  | .mk k n ks => by
    have h1 : decide (n = (⟨#[]⟩ : ByteArray)) = n.toList.isEmpty := by
      by_cases h : n = (⟨#[]⟩ : ByteArray)
      · subst h; rw [toList_nil]; simp
      · rw [decide_eq_false h]
        cases hq : n.toList.isEmpty
        · rfl
        · exact absurd (bytes_yes (by rw [List.isEmpty_iff.1 hq, toList_nil]; rfl)) h
    have h2 : Ty.eqbs ks [] = decide (ks.length = 0) := by cases ks <;> rfl
    show (decide (k = 0) && (decide (n = (⟨#[]⟩ : ByteArray)) && Ty.eqbs ks [])) = _
    rw [h1, h2]; rfl
theorem impl_isTypeless (k1 : Int) (n1 : ByteArray) (ks1 : List Ty) (aks1 : Option Addr) (cks1 : Nat) (w : World) (hr : RdS w (Ty.d (Ty.mk k1 n1 ks1)) [.int .i64 k1, .string n1, .slice aks1 ks1.length cks1]) : Calls Tryz.prog 102 #[.agg #[.int .i64 k1, .string n1, .slice aks1 ks1.length cks1]] w fun e w' => e = .returned (.bool (tyNone (Ty.mk k1 n1 ks1))) ∧ Below w.heap.size w w' := by
  have hB := (Below.refl w.heap.size w).alloc (Nat.le_refl _) (.cells #[.int .i64 k1, .string n1, .slice aks1 ks1.length cks1] 33)
  have hc := impl_SameType k1 0 n1 (⟨#[]⟩ : ByteArray) ks1 [] aks1 none cks1 0 (w.alloc (.cells #[.int .i64 k1, .string n1, .slice aks1 ks1.length cks1] 33)) (hr.below hB) (RdTyNone _)
  rw [tyEqb_none] at hc
  have HC := hid hc
  have HB0 := hid hB
  clear hc hB hr
  go_enter Tryz.func102, Tryz.ntmps102
  go_wp2_with fail
  refine HC.out.mono ?_
  rintro e w1 ⟨rfl, hb⟩
  have HB1 := hid (HB0.out.trans (hb.mono HB0.out.size))
  clear hb
  go_wp2_with fail
  go_ret
  exact ⟨rfl, HB1.out⟩
end Go.Proofs.YtikhofcjkcbpbaaGreatDoor
