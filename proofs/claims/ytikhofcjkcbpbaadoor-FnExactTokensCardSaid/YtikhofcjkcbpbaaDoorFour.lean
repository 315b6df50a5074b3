/- Walks of the tests on bytes and of IsName, IsUpper, IsLower, of the program and of the reference. -/
import Derived.Test.YtikhofcjkcbpbaaDoorThree
namespace Go.Proofs.YtikhofcjkcbpbaaDoor
open Go.ChangeShapes Go.WideShapes Go.ChangeAt Go.RowKit

def smallB (c : Int) : Bool := decide (97 ≤ c ∧ c ≤ 122)
def capB (c : Int) : Bool := decide (65 ≤ c ∧ c ≤ 90)
def digB (c : Int) : Bool := decide (48 ≤ c ∧ c ≤ 57)
def letB (c : Int) : Bool := smallB c || capB c
def wordB (c : Int) : Bool := smallB c || (capB c || digB c)
def byteAt (s : ByteArray) (i : Nat) : Int := ((s.data[i]?.getD 0).toNat : Int)
theorem byteAt_eq {s : ByteArray} {k : Nat} (h : k < s.size) : byteAt s k = ((s[k]'h).toNat : Int) := by
  have h' : k < s.data.size := h
  simp only [byteAt, Array.getElem?_eq_getElem h', Option.getD_some]
  rfl
def isNameB (s : ByteArray) : Bool := decide (1 ≤ s.size ∧ s.size ≤ 12 ∧ letB (byteAt s 0) = true ∧ isKw s = false ∧ ∀ i, i < s.size → wordB (byteAt s i) = true)
def isUpperB (s : ByteArray) : Bool := isNameB s && capB (byteAt s 0)
def isLowerB (s : ByteArray) : Bool := isNameB s && smallB (byteAt s 0)
theorem let_of {c : Int} (hw : wordB c = true) (hd : digB c = false) : letB c = true := by
  simp [wordB, letB, hd] at *
  exact hw
theorem let_not_dig {c : Int} (h : letB c = true) : digB c = false := by
  simp [letB, smallB, capB, digB] at *; omega

theorem word_or (c : Int) : wordB c = (letB c || digB c) := by simp [wordB, letB, Bool.or_assoc]

theorem impl_isSmall (c : Int) (w : World) : Calls Tryd.prog 87 #[.int .u8 c] w fun e w' => e = .returned (.bool (smallB c)) ∧ w = w' := by
  by_cases h1 : 97 ≤ c <;> by_cases h2 : c ≤ 122
  all_goals
    go_enter Tryd.func87, Tryd.ntmps87
    go_wp2
    go_ret
    exact ⟨ret_bool (by simp [smallB]; try omega), rfl⟩
theorem impl_isCapital (c : Int) (w : World) : Calls Tryd.prog 88 #[.int .u8 c] w fun e w' => e = .returned (.bool (capB c)) ∧ w = w' := by
  by_cases h1 : 65 ≤ c <;> by_cases h2 : c ≤ 90
  all_goals
    go_enter Tryd.func88, Tryd.ntmps88
    go_wp2
    go_ret
    exact ⟨ret_bool (by simp [capB]; try omega), rfl⟩
theorem impl_isDigit (c : Int) (w : World) : Calls Tryd.prog 89 #[.int .u8 c] w fun e w' => e = .returned (.bool (digB c)) ∧ w = w' := by
  by_cases h1 : 48 ≤ c <;> by_cases h2 : c ≤ 57
  all_goals
    go_enter Tryd.func89, Tryd.ntmps89
    go_wp2
    go_ret
    exact ⟨ret_bool (by simp [digB]; try omega), rfl⟩
theorem spec_Digit (c : Int) (w : World) : Calls Tryd.prog 22 #[.int .u8 c] w fun e w' => e = .returned (.bool (digB c)) ∧ w = w' := by
  by_cases h1 : 48 ≤ c <;> by_cases h2 : c ≤ 57
  all_goals
    go_enter Tryd.func22, Tryd.ntmps22
    go_wp2
    go_ret
    exact ⟨ret_bool (by simp [digB]; try omega), rfl⟩
theorem spec_Letter (c : Int) (w : World) : Calls Tryd.prog 79 #[.int .u8 c] w fun e w' => e = .returned (.bool (letB c)) ∧ w = w' := by
  by_cases h1 : 97 ≤ c <;> by_cases h2 : c ≤ 122 <;> by_cases h3 : 65 ≤ c <;> by_cases h4 : c ≤ 90
  all_goals first
    | (exfalso; omega)
    | (go_enter Tryd.func79, Tryd.ntmps79
       go_wp2
       go_ret
       exact ⟨ret_bool (by simp [letB, smallB, capB]; try omega), rfl⟩)
theorem impl_isWordByte (c : Int) (w : World) : Calls Tryd.prog 55 #[.int .u8 c] w fun e w' => e = .returned (.bool (wordB c)) ∧ w = w' := by
  cases h1 : smallB c <;> cases h2 : capB c <;> cases h3 : digB c
  all_goals
    have e : wordB c = (smallB c || (capB c || digB c)) := rfl
    rw [e, h1, h2, h3]
    clear e
    go_enter Tryd.func55, Tryd.ntmps55
    go_wp2_with (first
      | (go_at_call 87; refine (impl_isSmall _ _).mono ?_; rintro e w' ⟨rfl, rfl⟩)
      | (go_at_call 88; refine (impl_isCapital _ _).mono ?_; rintro e w' ⟨rfl, rfl⟩)
      | (go_at_call 89; refine (impl_isDigit _ _).mono ?_; rintro e w' ⟨rfl, rfl⟩))
    go_ret
    exact ⟨ret_bool (by simp), rfl⟩

theorem name_short {s : ByteArray} (h : s.size < 1) : isNameB s = false := by simp [isNameB]; omega
theorem name_long {s : ByteArray} (h : 12 < s.size) : isNameB s = false := by simp [isNameB]; omega
theorem name_head {s : ByteArray} (h : letB (byteAt s 0) = false) : isNameB s = false := by simp [isNameB, h]
theorem name_kw {s : ByteArray} (h : isKw s = true) : isNameB s = false := by simp [isNameB, h]
theorem name_not {s : ByteArray} {k : Nat} (hk : k < s.size) (h : wordB (byteAt s k) = false) : isNameB s = false := by
  simp only [isNameB, decide_eq_false_iff_not]
  intro ⟨_, _, _, _, ha⟩
  have := ha k hk
  rw [h] at this
  cases this
theorem name_yes {s : ByteArray} (h1 : 1 ≤ s.size) (h2 : s.size ≤ 12) (h3 : letB (byteAt s 0) = true) (h4 : isKw s = false) (h5 : ∀ i, i < s.size → wordB (byteAt s i) = true) : isNameB s = true := by
  simp only [isNameB, decide_eq_true_eq]
  exact ⟨h1, h2, h3, h4, h5⟩

theorem impl_IsName (s : ByteArray) (w : World) : Calls Tryd.prog 91 #[.string s] w fun e w' => e = .returned (.bool (isNameB s)) ∧ Below w.heap.size w w' := by
  by_cases h1 : s.size < 1
  · rw [name_short h1]
    go_enter Tryd.func91, Tryd.ntmps91
    go_wp2_with fail
    go_ret
    exact ⟨rfl, Below.refl _ _⟩
  by_cases h2 : 12 < s.size
  · rw [name_long h2]
    go_enter Tryd.func91, Tryd.ntmps91
    go_wp2_with fail
    go_ret
    exact ⟨rfl, Below.refl _ _⟩
  have hp : 0 < s.size := by omega
  have hb0 := byteAt_eq hp
  cases hd : digB (s[0].toNat : Int)
  case true =>
    rw [name_head (by cases h : letB (byteAt s 0) with | false => rfl | true => have := let_not_dig h; rw [hb0, hd] at this; cases this)]
    have HB := hid hb0
    clear hb0
    go_enter Tryd.func91, Tryd.ntmps91
    go_wp2_with (go_at_call 89; refine (impl_isDigit _ _).mono ?_; rintro e w' ⟨rfl, rfl⟩)
    go_ret
    exact ⟨rfl, Below.refl _ _⟩
  cases hk : isKw s
  case true =>
    rw [name_kw hk]
    clear hb0
    go_enter Tryd.func91, Tryd.ntmps91
    go_wp2_with (first
      | (go_at_call 89; refine (impl_isDigit _ _).mono ?_; rintro e w' ⟨rfl, rfl⟩)
      | (go_at_call 56; refine (impl_IsKeyword _ _).mono ?_; rintro e w' ⟨rfl, hb⟩))
    go_ret
    exact ⟨rfl, hb⟩
  have HB := hid hb0
  clear hb0
  go_enter Tryd.func91, Tryd.ntmps91
  go_wp2_with (first
    | (go_at_call 89; refine (impl_isDigit _ _).mono ?_; rintro e w' ⟨rfl, rfl⟩)
    | (go_at_call 56; refine (impl_IsKeyword _ _).mono ?_; rintro e w1 ⟨rfl, hb⟩))
  have HD := hid hd
  have HK := hid hk
  clear hd hk
  go_loop [3, 23] (fun _ i => ∃ k : Nat, k ≤ s.size ∧ i = .int .i64 k ∧ Hid (∀ j, j < k → wordB (byteAt s j) = true)) (fun _ i => s.size - (intOf i).toNat)
  case atStart => exact ⟨0, by omega, rfl, fun j hj => absurd hj (by omega)⟩
  case round =>
    obtain ⟨k, hk, rfl, HN⟩ := hrel
    by_cases hlt : k < s.size
    · have hbk := byteAt_eq hlt
      have HBK := hid hbk
      clear hbk
      cases hw : wordB (s[k].toNat : Int)
      · go_wp2_with (go_at_call 55; refine (impl_isWordByte _ _).mono ?_; rintro e w' ⟨rfl, rfl⟩)
        go_ret
        exact ⟨ret_bool (name_not hlt (by rw [HBK.out]; exact hw)).symm, hb⟩
      · go_wp2_with (go_at_call 55; refine (impl_isWordByte _ _).mono ?_; rintro e w' ⟨rfl, rfl⟩)
        go_round
        case rel =>
          refine ⟨k + 1, by omega, by go_num, fun j hj => ?_⟩
          rcases Nat.lt_succ_iff_lt_or_eq.1 hj with hj' | rfl
          · exact HN.out j hj'
          · rw [HBK.out]; exact hw
        case measure => simp [intOf]; omega
    · go_wp2
      go_ret
      refine ⟨ret_bool (name_yes (by omega) (by omega) ?_ HK.out (fun i hi => HN.out i (by omega))).symm, hb⟩
      exact let_of (HN.out 0 (by omega)) (by rw [HB.out]; exact HD.out)

theorem spec_IsName (s : ByteArray) (w : World) : Calls Tryd.prog 109 #[.string s] w fun e w' => e = .returned (.bool (isNameB s)) ∧ Below w.heap.size w w' := by
  by_cases h1 : s.size < 1
  · rw [name_short h1]
    go_enter Tryd.func109, Tryd.ntmps109
    go_wp2_with fail
    go_ret
    exact ⟨rfl, Below.refl _ _⟩
  by_cases h2 : 12 < s.size
  · rw [name_long h2]
    go_enter Tryd.func109, Tryd.ntmps109
    go_wp2_with fail
    go_ret
    exact ⟨rfl, Below.refl _ _⟩
  have hp : 0 < s.size := by omega
  have hb0 := byteAt_eq hp
  cases hd : letB (s[0].toNat : Int)
  case false =>
    rw [name_head (by rw [hb0]; exact hd)]
    have HB := hid hb0
    clear hb0
    go_enter Tryd.func109, Tryd.ntmps109
    go_wp2_with (go_at_call 79; refine (spec_Letter _ _).mono ?_; rintro e w' ⟨rfl, rfl⟩)
    go_ret
    exact ⟨rfl, Below.refl _ _⟩
  cases hk : isKw s
  case true =>
    rw [name_kw hk]
    clear hb0
    go_enter Tryd.func109, Tryd.ntmps109
    go_wp2_with (first
      | (go_at_call 79; refine (spec_Letter _ _).mono ?_; rintro e w' ⟨rfl, rfl⟩)
      | (go_at_call 81; refine (spec_IsKeyword _ _).mono ?_; rintro e w' ⟨rfl, hb⟩))
    go_ret
    exact ⟨rfl, hb⟩
  have HB := hid hb0
  clear hb0
  go_enter Tryd.func109, Tryd.ntmps109
  go_wp2_with (first
    | (go_at_call 79; refine (spec_Letter _ _).mono ?_; rintro e w' ⟨rfl, rfl⟩)
    | (go_at_call 81; refine (spec_IsKeyword _ _).mono ?_; rintro e w1 ⟨rfl, hb⟩))
  have HD := hid hd
  have HK := hid hk
  clear hd hk
  go_loop [3] (fun i => ∃ k : Nat, k ≤ s.size ∧ i = .int .i64 k ∧ Hid (∀ j, j < k → wordB (byteAt s j) = true)) (fun i => s.size - (intOf i).toNat)
  case atStart => exact ⟨0, by omega, rfl, fun j hj => absurd hj (by omega)⟩
  case round =>
    obtain ⟨k, hk, rfl, HN⟩ := hrel
    by_cases hlt : k < s.size
    · have hbk := byteAt_eq hlt
      have HBK := hid hbk
      clear hbk
      cases hl : letB (s[k].toNat : Int) <;> cases hg : digB (s[k].toNat : Int)
      · go_wp2_with (first
          | (go_at_call 79; refine (spec_Letter _ _).mono ?_; rintro e w' ⟨rfl, rfl⟩)
          | (go_at_call 22; refine (spec_Digit _ _).mono ?_; rintro e w' ⟨rfl, rfl⟩))
        go_ret
        exact ⟨ret_bool (name_not hlt (by rw [HBK.out, word_or, hl, hg]; rfl)).symm, hb⟩
      all_goals
        have hw : wordB (s[k].toNat : Int) = true := by rw [word_or, hl, hg]; rfl
        have HW := hid hw
        clear hw
        go_wp2_with (first
          | (go_at_call 79; refine (spec_Letter _ _).mono ?_; rintro e w' ⟨rfl, rfl⟩)
          | (go_at_call 22; refine (spec_Digit _ _).mono ?_; rintro e w' ⟨rfl, rfl⟩))
        go_round
        case rel =>
          refine ⟨k + 1, by omega, by go_num, fun j hj => ?_⟩
          rcases Nat.lt_succ_iff_lt_or_eq.1 hj with hj' | rfl
          · exact HN.out j hj'
          · rw [HBK.out]; exact HW.out
        case measure => simp [intOf]; omega
    · go_wp2
      go_ret
      exact ⟨ret_bool (name_yes (by omega) (by omega) (by rw [HB.out]; exact HD.out) HK.out (fun i hi => HN.out i (by omega))).symm, hb⟩

theorem isName_size {s : ByteArray} (h : isNameB s = true) : 0 < s.size := by
  simp only [isNameB, decide_eq_true_eq] at h; omega
theorem isName_head {s : ByteArray} (h : isNameB s = true) : letB (byteAt s 0) = true := by
  simp only [isNameB, decide_eq_true_eq] at h; exact h.2.2.1

theorem impl_IsUpper (s : ByteArray) (w : World) : Calls Tryd.prog 58 #[.string s] w fun e w' => e = .returned (.bool (isUpperB s)) ∧ Below w.heap.size w w' := by
  cases hn : isNameB s
  · go_enter Tryd.func58, Tryd.ntmps58
    go_wp2_with (go_at_call 91; refine (impl_IsName _ _).mono ?_; rintro e w' ⟨rfl, hb⟩)
    go_ret
    exact ⟨ret_bool (by simp [isUpperB, hn]), hb⟩
  · have hp := isName_size hn
    have HB := hid (byteAt_eq hp)
    go_enter Tryd.func58, Tryd.ntmps58
    go_wp2_with (first
      | (go_at_call 91; refine (impl_IsName _ _).mono ?_; rintro e w' ⟨rfl, hb⟩)
      | (go_at_call 88; refine (impl_isCapital _ _).mono ?_; rintro e w' ⟨rfl, rfl⟩))
    go_ret
    exact ⟨ret_bool (by simp only [isUpperB, hn, HB.out]; simp), hb⟩
theorem impl_IsLower (s : ByteArray) (w : World) : Calls Tryd.prog 57 #[.string s] w fun e w' => e = .returned (.bool (isLowerB s)) ∧ Below w.heap.size w w' := by
  cases hn : isNameB s
  · go_enter Tryd.func57, Tryd.ntmps57
    go_wp2_with (go_at_call 91; refine (impl_IsName _ _).mono ?_; rintro e w' ⟨rfl, hb⟩)
    go_ret
    exact ⟨ret_bool (by simp [isLowerB, hn]), hb⟩
  · have hp := isName_size hn
    have HB := hid (byteAt_eq hp)
    go_enter Tryd.func57, Tryd.ntmps57
    go_wp2_with (first
      | (go_at_call 91; refine (impl_IsName _ _).mono ?_; rintro e w' ⟨rfl, hb⟩)
      | (go_at_call 87; refine (impl_isSmall _ _).mono ?_; rintro e w' ⟨rfl, rfl⟩))
    go_ret
    exact ⟨ret_bool (by simp only [isLowerB, hn, HB.out]; simp), hb⟩
theorem spec_IsUpper (s : ByteArray) (w : World) : Calls Tryd.prog 83 #[.string s] w fun e w' => e = .returned (.bool (isUpperB s)) ∧ Below w.heap.size w w' := by
  cases hn : isNameB s
  · go_enter Tryd.func83, Tryd.ntmps83
    go_wp2_with (go_at_call 109; refine (spec_IsName _ _).mono ?_; rintro e w' ⟨rfl, hb⟩)
    go_ret
    exact ⟨ret_bool (by simp [isUpperB, hn]), hb⟩
  · have hp := isName_size hn
    have hl := isName_head hn
    rw [byteAt_eq hp] at hl
    have HB := hid (byteAt_eq hp)
    have HL := hid hl
    clear hl
    go_enter Tryd.func83, Tryd.ntmps83
    go_wp2_with (go_at_call 109; refine (spec_IsName _ _).mono ?_; rintro e w' ⟨rfl, hb⟩)
    go_ret
    exact ⟨ret_bool (by have := HL.out; simp only [isUpperB, hn, HB.out, letB, smallB, capB] at *; simp at *; omega), hb⟩
theorem spec_IsLower (s : ByteArray) (w : World) : Calls Tryd.prog 82 #[.string s] w fun e w' => e = .returned (.bool (isLowerB s)) ∧ Below w.heap.size w w' := by
  cases hn : isNameB s
  · go_enter Tryd.func82, Tryd.ntmps82
    go_wp2_with (go_at_call 109; refine (spec_IsName _ _).mono ?_; rintro e w' ⟨rfl, hb⟩)
    go_ret
    exact ⟨ret_bool (by simp [isLowerB, hn]), hb⟩
  · have hp := isName_size hn
    have hl := isName_head hn
    rw [byteAt_eq hp] at hl
    have HB := hid (byteAt_eq hp)
    have HL := hid hl
    clear hl
    go_enter Tryd.func82, Tryd.ntmps82
    go_wp2_with (go_at_call 109; refine (spec_IsName _ _).mono ?_; rintro e w' ⟨rfl, hb⟩)
    go_ret
    exact ⟨ret_bool (by have := HL.out; simp only [isLowerB, hn, HB.out, letB, smallB, capB] at *; simp at *; omega), hb⟩
end Go.Proofs.YtikhofcjkcbpbaaDoor
