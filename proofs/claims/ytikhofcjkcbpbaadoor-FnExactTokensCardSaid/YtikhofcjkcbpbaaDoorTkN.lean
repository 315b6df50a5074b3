/- Tokens: numbers in the reference. No condition. -/
import Derived.Test.YtikhofcjkcbpbaaDoorTkS
namespace Go.Proofs.YtikhofcjkcbpbaaDoor
open Go.ChangeShapes Go.WideShapes Go.ChangeAt Go.RowKit
set_option linter.unusedVariables false

theorem numB_no {s : ByteArray} (h : 10 < s.size ∨ (1 < s.size ∧ byteAt s 0 = 48) ∨ s.data.toList.all isDig = false) : numB s = false := by
  cases hn : numB s with
  | false => rfl
  | true =>
    obtain ⟨h1, h2, h3, -⟩ := numB_parts hn
    rcases h with h | h | h
    · omega
    · exact absurd h h2
    · rw [h] at h3; cases h3
theorem numB_val {s : ByteArray} (h1 : s.size ≤ 10) (h2 : ¬ (1 < s.size ∧ byteAt s 0 = 48)) (h3 : s.data.toList.all isDig = true) : numB s = decide ((dval 0 s.data.toList : Int) ≤ 2147483648) := by
  by_cases h : dval 0 s.data.toList ≤ 2147483648
  · rw [numB_yes h1 h2 h3 h, decide_eq_true (by omega)]
  · cases hn : numB s with
    | false => rw [decide_eq_false (by omega)]
    | true => exact absurd (numB_parts hn).2.2.2 h
theorem digB_isDig (c : UInt8) : digB (c.toNat : Int) = isDig c := by
  unfold digB isDig
  by_cases h : 48 ≤ c.toNat ∧ c.toNat ≤ 57
  · rw [decide_eq_true (show 48 ≤ (c.toNat : Int) ∧ (c.toNat : Int) ≤ 57 by omega), decide_eq_true h.1, decide_eq_true h.2]; rfl
  · rw [decide_eq_false (show ¬ (48 ≤ (c.toNat : Int) ∧ (c.toNat : Int) ≤ 57) by omega)]
    cases hx : (decide (48 ≤ c.toNat) && decide (c.toNat ≤ 57)) with
    | false => rfl
    | true => simp only [Bool.and_eq_true, decide_eq_true_eq] at hx; exact absurd hx h
theorem take_all {l : List UInt8} {k : Nat} {c : UInt8} (h : l[k]? = some c) (hc : isDig c = false) : l.all isDig = false := by
  rw [List.all_eq_false]
  exact ⟨c, List.mem_of_getElem? h, by simp [hc]⟩
theorem take_succ8 {l : List UInt8} {k : Nat} {c : UInt8} (h : l[k]? = some c) : l.take (k + 1) = l.take k ++ [c] := by
  obtain ⟨hlt, he⟩ := List.getElem?_eq_some_iff.1 h
  rw [List.take_succ_eq_append_getElem hlt, he]
set_option maxRecDepth 100000 in
theorem spec_Number (s : ByteArray) (hs0 : 1 ≤ s.size) (hs : s.size ≤ 1048576) (w : World) : Calls Tryd.prog 84 #[.string s] w fun e w' => e = .returned (.bool (numB s)) ∧ w = w' := by
  have hsl : s.data.toList.length = s.size := rfl
  have HSL := hid hsl
  clear hsl
  by_cases h10 : 10 < s.size
  case pos =>
    have HN := hid (numB_no (Or.inl h10))
    go_enter Tryd.func84, Tryd.ntmps84
    go_wp2_with fail
    go_ret
    exact ⟨ret_bool HN.out.symm, rfl⟩
  case neg =>
  have hp : 0 < s.size := by omega
  have HB0 := hid (byteAt_eq hp)
  by_cases hz : 1 < s.size ∧ s[0].toNat = 48
  case pos =>
    obtain ⟨hz1, hz2⟩ := hz
    have HN := hid (numB_no (Or.inr (Or.inl ⟨hz1, by rw [HB0.out, hz2]; rfl⟩)))
    have g1 : ((s[0].toNat : Int) == 48) = true := by simp; omega
    clear hz2
    go_enter Tryd.func84, Tryd.ntmps84
    go_wp2_with fail
    go_ret
    exact ⟨ret_bool HN.out.symm, rfl⟩
  case neg =>
  have HZ := hid (show ¬ (1 < s.size ∧ byteAt s 0 = 48) by rw [HB0.out]; intro h; exact hz ⟨h.1, by omega⟩)
  have HG := hid (show 1 < s.size → ((s[0].toNat : Int) == 48) = false from fun h => by simp; intro e; exact hz ⟨h, by omega⟩)
  clear hz
  have key : Calls Tryd.prog 84 #[.string s] w fun e w' => e = .returned (.bool (numB s)) ∧ w = w' := by
    by_cases h1 : 1 < s.size
    · have g1 := HG.out h1
      go_enter Tryd.func84, Tryd.ntmps84
      go_wp2_with fail
      clear g1
      go_loop [3, 4] (fun n i => ∃ (j m : Nat), j ≤ s.size ∧ i = .int .i64 j ∧ n = .int .i64 m ∧ m < 10000000000 ∧ Hid ((s.data.toList.take j).all isDig = true) ∧ Hid (m = dval 0 (s.data.toList.take j))) (fun _ i => s.size - (intOf i).toNat)
      case atStart => exact ⟨0, 0, by omega, rfl, rfl, by omega, hid rfl, hid (by rw [List.take_zero, dval_nil])⟩
      case round =>
        obtain ⟨j, m, hj, rfl, rfl, hm, HD, HM⟩ := hrel
        by_cases hlt : j < s.size
        case neg =>
          have ht : s.data.toList.take j = s.data.toList := List.take_of_length_le (by rw [HSL.out]; omega)
          have HN := hid (show numB s = decide ((m : Int) ≤ 2147483648) by rw [numB_val (by omega) HZ.out (by have := HD.out; rwa [ht] at this), HM.out, ht])
          clear ht
          go_wp2_with fail
          go_ret
          exact ⟨ret_bool HN.out.symm, rfl⟩
        case pos =>
          have HC := hid (show s.data.toList[j]? = some s[j] from List.getElem?_eq_getElem (by rw [HSL.out]; exact hlt))
          by_cases hd : isDig s[j] = true
          case neg =>
            have hdf : isDig s[j] = false := by simpa using hd
            have HN := hid (numB_no (s := s) (Or.inr (Or.inr (take_all HC.out hdf))))
            have hgd : digB (s[j].toNat : Int) = false := by rw [digB_isDig, hdf]
            clear hd hdf
            go_wp2_with (first | (go_at_call 22; refine (spec_Digit _ _).mono ?_; rintro e w' ⟨rfl, rfl⟩))
            go_ret
            exact ⟨ret_bool HN.out.symm, rfl⟩
          case pos =>
            have hdi := isDig_iff hd
            have HD2 := hid (show (s.data.toList.take (j + 1)).all isDig = true by rw [take_succ8 HC.out, List.all_append, HD.out]; simp [hd])
            have HM2 := hid (show dstep m s[j] = dval 0 (s.data.toList.take (j + 1)) by rw [take_succ8 HC.out, dval_append, ← HM.out, dval_cons, dval_nil])
            have HML := hid (show dstep m s[j] < 10000000000 by
              have h1 := dval_lt (s.data.toList.take (j + 1)) 0 HD2.out
              rw [← HM2.out] at h1
              have h2 : (s.data.toList.take (j + 1)).length ≤ 10 := by rw [List.length_take]; omega
              have h3 : 10 ^ (s.data.toList.take (j + 1)).length ≤ 10 ^ 10 := Nat.pow_le_pow_right (by omega) h2
              rw [show 10 ^ 10 = 10000000000 from rfl] at h3
              omega)
            have HST := hid (show dstep m s[j] = m * 10 + (s[j].toNat - 48) from rfl)
            have hgd : digB (s[j].toNat : Int) = true := by rw [digB_isDig, hd]
            obtain ⟨hd1, hd2⟩ := hdi
            have hd3 : 48 ≤ (s[j].toNat : Int) := by omega
            have hd4 : (s[j].toNat : Int) ≤ 57 := by omega
            clear hd
            go_wp2_with (first | (go_at_call 22; refine (spec_Digit _ _).mono ?_; rintro e w' ⟨rfl, rfl⟩))
            go_round
            case rel => exact ⟨j + 1, dstep m s[j], by omega, by go_num, by rw [HST.out]; exact congrArg _ (by omega), HML.out, HD2, HM2⟩
            case measure => first | (simp [intOf]; done) | (simp [intOf]; omega)
    · go_enter Tryd.func84, Tryd.ntmps84
      go_wp2_with fail
      go_loop [3, 4] (fun n i => ∃ (j m : Nat), j ≤ s.size ∧ i = .int .i64 j ∧ n = .int .i64 m ∧ m < 10000000000 ∧ Hid ((s.data.toList.take j).all isDig = true) ∧ Hid (m = dval 0 (s.data.toList.take j))) (fun _ i => s.size - (intOf i).toNat)
      case atStart => exact ⟨0, 0, by omega, rfl, rfl, by omega, hid rfl, hid (by rw [List.take_zero, dval_nil])⟩
      case round =>
        obtain ⟨j, m, hj, rfl, rfl, hm, HD, HM⟩ := hrel
        by_cases hlt : j < s.size
        case neg =>
          have ht : s.data.toList.take j = s.data.toList := List.take_of_length_le (by rw [HSL.out]; omega)
          have HN := hid (show numB s = decide ((m : Int) ≤ 2147483648) by rw [numB_val (by omega) HZ.out (by have := HD.out; rwa [ht] at this), HM.out, ht])
          clear ht
          go_wp2_with fail
          go_ret
          exact ⟨ret_bool HN.out.symm, rfl⟩
        case pos =>
          have HC := hid (show s.data.toList[j]? = some s[j] from List.getElem?_eq_getElem (by rw [HSL.out]; exact hlt))
          by_cases hd : isDig s[j] = true
          case neg =>
            have hdf : isDig s[j] = false := by simpa using hd
            have HN := hid (numB_no (s := s) (Or.inr (Or.inr (take_all HC.out hdf))))
            have hgd : digB (s[j].toNat : Int) = false := by rw [digB_isDig, hdf]
            clear hd hdf
            go_wp2_with (first | (go_at_call 22; refine (spec_Digit _ _).mono ?_; rintro e w' ⟨rfl, rfl⟩))
            go_ret
            exact ⟨ret_bool HN.out.symm, rfl⟩
          case pos =>
            have hdi := isDig_iff hd
            have HD2 := hid (show (s.data.toList.take (j + 1)).all isDig = true by rw [take_succ8 HC.out, List.all_append, HD.out]; simp [hd])
            have HM2 := hid (show dstep m s[j] = dval 0 (s.data.toList.take (j + 1)) by rw [take_succ8 HC.out, dval_append, ← HM.out, dval_cons, dval_nil])
            have HML := hid (show dstep m s[j] < 10000000000 by
              have h1 := dval_lt (s.data.toList.take (j + 1)) 0 HD2.out
              rw [← HM2.out] at h1
              have h2 : (s.data.toList.take (j + 1)).length ≤ 10 := by rw [List.length_take]; omega
              have h3 : 10 ^ (s.data.toList.take (j + 1)).length ≤ 10 ^ 10 := Nat.pow_le_pow_right (by omega) h2
              rw [show 10 ^ 10 = 10000000000 from rfl] at h3
              omega)
            have HST := hid (show dstep m s[j] = m * 10 + (s[j].toNat - 48) from rfl)
            have hgd : digB (s[j].toNat : Int) = true := by rw [digB_isDig, hd]
            obtain ⟨hd1, hd2⟩ := hdi
            have hd3 : 48 ≤ (s[j].toNat : Int) := by omega
            have hd4 : (s[j].toNat : Int) ≤ 57 := by omega
            clear hd
            go_wp2_with (first | (go_at_call 22; refine (spec_Digit _ _).mono ?_; rintro e w' ⟨rfl, rfl⟩))
            go_round
            case rel => exact ⟨j + 1, dstep m s[j], by omega, by go_num, by rw [HST.out]; exact congrArg _ (by omega), HML.out, HD2, HM2⟩
            case measure => first | (simp [intOf]; done) | (simp [intOf]; omega)
  exact key
end Go.Proofs.YtikhofcjkcbpbaaDoor
