/- Tokens: walks of the reference's small functions. No condition. -/
import Derived.Test.YtikhofcjkcbpbaaDoorTkQ
namespace Go.Proofs.YtikhofcjkcbpbaaDoor
open Go.ChangeShapes Go.WideShapes Go.ChangeAt Go.RowKit
set_option linter.unusedVariables false

theorem blank_eq (c : Int) : inL blkL c = (decide (c = 32) || (decide (c = 10) || decide (c = 9))) := by
  unfold blkL
  rw [inL_cons, inL_cons, inL_cons]
  simp [inL]
theorem spec_Blank (c : Int) (w : World) : Calls Tryd.prog 52 #[.int .u8 c] w fun e w' => e = .returned (.bool (inL blkL c)) ∧ w = w' := by
  have HE := hid (blank_eq c)
  by_cases h1 : c = 32
  · have HL := hid (show inL blkL c = true by rw [HE.out]; simp [h1])
    subst h1
    go_enter Tryd.func52, Tryd.ntmps52
    go_wp2_with fail
    go_ret
    exact ⟨ret_bool HL.out.symm, rfl⟩
  by_cases h2 : c = 10
  · have HL := hid (show inL blkL c = true by rw [HE.out]; simp [h2])
    subst h2
    go_enter Tryd.func52, Tryd.ntmps52
    go_wp2_with fail
    go_ret
    exact ⟨ret_bool HL.out.symm, rfl⟩
  by_cases h3 : c = 9
  · have HL := hid (show inL blkL c = true by rw [HE.out]; simp [h3])
    subst h3
    go_enter Tryd.func52, Tryd.ntmps52
    go_wp2_with fail
    go_ret
    exact ⟨ret_bool HL.out.symm, rfl⟩
  have HL := hid (show inL blkL c = false by rw [HE.out]; simp [h1, h2, h3])
  have g1 : (c == 32) = false := by simpa using h1
  have g2 : (c == 10) = false := by simpa using h2
  have g3 : (c == 9) = false := by simpa using h3
  go_enter Tryd.func52, Tryd.ntmps52
  go_wp2_with fail
  go_ret
  exact ⟨ret_bool HL.out.symm, rfl⟩
def symS : ByteArray := ⟨#[43, 45, 42, 47, 60, 61, 40, 41, 91, 93, 123, 125, 44, 59, 58, 46, 124, 33, 92]⟩
theorem sym_no {c : Int} (h : ∀ j, j < symS.size → byteAt symS j ≠ c) : inL symL c = false := by
  cases hh : inL symL c with
  | false => rfl
  | true =>
    exfalso
    unfold inL at hh
    have hm : c ∈ symL.map fun b => (b.toNat : Int) := by simpa [List.contains_iff_mem] using hh
    obtain ⟨j, hj⟩ := List.getElem?_of_mem hm
    have hl : j < 19 := by
      have := (List.getElem?_eq_some_iff.1 hj).1
      simpa [symL] using this
    refine h j hl ?_
    unfold byteAt
    rw [List.getElem?_map] at hj
    rw [show symS.data[j]? = symL[j]? from (by rw [← Array.getElem?_toList]; rfl)]
    cases hs : symL[j]? with
    | none => rw [hs] at hj; simp at hj
    | some x => rw [hs] at hj; simpa using hj
theorem sym_yes {c : Int} {j : Nat} (hj : j < symS.size) (h : byteAt symS j = c) : inL symL c = true := by
  cases hh : inL symL c with
  | true => rfl
  | false =>
    exfalso
    unfold inL at hh
    have hm : ¬ c ∈ symL.map fun b => (b.toNat : Int) := by simpa [List.contains_iff_mem] using hh
    refine hm ?_
    rw [← h]
    unfold byteAt
    rw [show symS.data[j]? = symL[j]? from (by rw [← Array.getElem?_toList]; rfl)]
    have hl : j < symL.length := hj
    rw [List.getElem?_eq_getElem hl]
    exact List.mem_map.2 ⟨symL[j], List.getElem_mem hl, rfl⟩
set_option maxRecDepth 100000 in
theorem spec_Symbol (c : Int) (w : World) : Calls Tryd.prog 85 #[.int .u8 c] w fun e w' => e = .returned (.bool (inL symL c)) ∧ w = w' := by
  go_enter Tryd.func85, Tryd.ntmps85
  go_wp2_with fail
  go_loop [4] (fun i => ∃ k : Nat, k ≤ 19 ∧ i = .int .i64 k ∧ Hid (∀ j, j < k → byteAt symS j ≠ c)) (fun i => 19 - (intOf i).toNat)
  case atStart => exact ⟨0, by omega, rfl, fun j hj => absurd hj (by omega)⟩
  case round =>
    obtain ⟨k, hk, rfl, HN⟩ := hrel
    have hsz : (⟨#[43, 45, 42, 47, 60, 61, 40, 41, 91, 93, 123, 125, 44, 59, 58, 46, 124, 33, 92]⟩ : ByteArray).size = 19 := rfl
    by_cases hlt : k < 19
    · have hls : k < (⟨#[43, 45, 42, 47, 60, 61, 40, 41, 91, 93, 123, 125, 44, 59, 58, 46, 124, 33, 92]⟩ : ByteArray).size := hlt
      have HBK := hid (show byteAt symS k = (((⟨#[43, 45, 42, 47, 60, 61, 40, 41, 91, 93, 123, 125, 44, 59, 58, 46, 124, 33, 92]⟩ : ByteArray)[k]'hls).toNat : Int) from byteAt_eq (s := symS) hls)
      by_cases hc : (((⟨#[43, 45, 42, 47, 60, 61, 40, 41, 91, 93, 123, 125, 44, 59, 58, 46, 124, 33, 92]⟩ : ByteArray)[k]'hls).toNat : Int) = c
      · have gc : ((((⟨#[43, 45, 42, 47, 60, 61, 40, 41, 91, 93, 123, 125, 44, 59, 58, 46, 124, 33, 92]⟩ : ByteArray)[k]'hls).toNat : Int) == c) = true := by simpa using hc
        have HL := hid (show inL symL c = true from sym_yes (j := k) hls (by rw [HBK.out]; exact hc))
        clear hc
        go_wp2_with fail
        go_ret
        exact ⟨ret_bool HL.out.symm, rfl⟩
      · have gc : ((((⟨#[43, 45, 42, 47, 60, 61, 40, 41, 91, 93, 123, 125, 44, 59, 58, 46, 124, 33, 92]⟩ : ByteArray)[k]'hls).toNat : Int) == c) = false := by simpa using hc
        have HNX := hid (show ∀ j, j < k + 1 → byteAt symS j ≠ c by
          intro j hj
          rcases Nat.lt_succ_iff_lt_or_eq.1 hj with hj' | rfl
          · exact HN.out j hj'
          · rw [HBK.out]; exact hc)
        clear hc
        go_wp2_with fail
        go_round
        case rel => exact ⟨k + 1, by omega, by go_num, HNX⟩
        case measure => simp [intOf]; omega
    · have HL := hid (show inL symL c = false from sym_no fun j hj => HN.out j (by have : symS.size = 19 := rfl; omega))
      go_wp2_with fail
      go_ret
      exact ⟨ret_bool HL.out.symm, rfl⟩
set_option maxRecDepth 100000 in
theorem spec_End (t : ByteArray) (i : Nat) (hi : i ≤ t.size) (hs : t.size ≤ 1048576) (w : World) : Calls Tryd.prog 80 #[.string t, .int .i64 i] w fun e w' => e = .returned (.int .i64 (wEnd t i)) ∧ w = w' := by
  go_enter Tryd.func80, Tryd.ntmps80
  go_wp2_with fail
  go_loop [1] (fun v => ∃ k : Nat, i ≤ k ∧ k ≤ t.size ∧ v = .int .i64 k ∧ Hid (∀ j, i ≤ j → j < k → wordB (byteAt t j) = true)) (fun v => t.size - (intOf v).toNat)
  case atStart => exact ⟨i, by omega, hi, rfl, fun j h1 h2 => absurd h2 (by omega)⟩
  case round =>
    obtain ⟨k, hik, hk, rfl, HN⟩ := hrel
    by_cases hlt : k < t.size
    · have hbk := byteAt_eq hlt
      have HBK := hid hbk
      clear hbk
      cases hl : letB (t[k].toNat : Int) <;> cases hg : digB (t[k].toNat : Int)
      · have HE := hid (show wEnd t i = k from wEnd_is hik hk HN.out (Or.inr (by rw [HBK.out, word_or, hl, hg]; rfl)))
        go_wp2_with (first
          | (go_at_call 79; refine (spec_Letter _ _).mono ?_; rintro e w' ⟨rfl, rfl⟩)
          | (go_at_call 22; refine (spec_Digit _ _).mono ?_; rintro e w' ⟨rfl, rfl⟩))
        go_ret
        exact ⟨by rw [HE.out]; rfl, rfl⟩
      all_goals
        have HW := hid (show wordB (t[k].toNat : Int) = true by rw [word_or, hl, hg]; rfl)
        go_wp2_with (first
          | (go_at_call 79; refine (spec_Letter _ _).mono ?_; rintro e w' ⟨rfl, rfl⟩)
          | (go_at_call 22; refine (spec_Digit _ _).mono ?_; rintro e w' ⟨rfl, rfl⟩))
        go_round
        case rel =>
          refine ⟨k + 1, by omega, by omega, by go_num, fun j h1 hj => ?_⟩
          rcases Nat.lt_succ_iff_lt_or_eq.1 hj with hj' | rfl
          · exact HN.out j h1 hj'
          · rw [HBK.out]; exact HW.out
        case measure => simp [intOf]; omega
    · have HE := hid (show wEnd t i = k from wEnd_is hik hk HN.out (Or.inl (by omega)))
      go_wp2
      go_ret
      exact ⟨by rw [HE.out]; rfl, rfl⟩
end Go.Proofs.YtikhofcjkcbpbaaDoor
