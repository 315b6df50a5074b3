/- Walks: ReadDecimal in the reference. No condition. -/
import Derived.Test.YtikhofcjkcbpbaaDoorDeS
namespace Go.Proofs.YtikhofcjkcbpbaaDoor
open Go.ChangeShapes Go.WideShapes Go.ChangeAt Go.RowKit
set_option linter.unusedVariables false

theorem isDig_eq (c : UInt8) : isDig c = (decide (48 ≤ (c.toNat : Int)) && decide ((c.toNat : Int) ≤ 57)) := by
  unfold isDig
  rw [show (decide (48 ≤ (c.toNat : Int))) = decide (48 ≤ c.toNat) from decide_eq_decide.2 (by omega), show (decide ((c.toNat : Int) ≤ 57)) = decide (c.toNat ≤ 57) from decide_eq_decide.2 (by omega)]
set_option maxRecDepth 100000 in
theorem spec_Digit8 (c : UInt8) (w : World) : Calls Tryd.prog 22 #[.int .u8 (c.toNat : Int)] w fun e w' => e = .returned (.bool (isDig c)) ∧ w = w' := by
  rw [isDig_eq]
  by_cases h1 : 48 ≤ (c.toNat : Int)
  · by_cases h2 : (c.toNat : Int) ≤ 57
    · go_enter Tryd.func22, Tryd.ntmps22
      go_wp2_with fail
      go_ret
      exact ⟨by simp [*], rfl⟩
    · go_enter Tryd.func22, Tryd.ntmps22
      go_wp2_with fail
      go_ret
      exact ⟨by simp [*], rfl⟩
  · go_enter Tryd.func22, Tryd.ntmps22
    go_wp2_with fail
    go_ret
    exact ⟨by (simp [*]; omega), rfl⟩
set_option maxRecDepth 100000 in
theorem spec_In32 (n : Int) (w : World) : Calls Tryd.prog 23 #[.int .i64 n, .int .i64 (-2147483648), .int .i64 2147483647] w fun e w' => e = .returned (.bool (lint n)) ∧ w = w' := by
  unfold lint
  by_cases h1 : -2147483648 ≤ n
  · by_cases h2 : n ≤ 2147483647
    · go_enter Tryd.func23, Tryd.ntmps23
      go_wp2_with fail
      go_ret
      exact ⟨by simp [*], rfl⟩
    · go_enter Tryd.func23, Tryd.ntmps23
      go_wp2_with fail
      go_ret
      exact ⟨by simp [*], rfl⟩
  · go_enter Tryd.func23, Tryd.ntmps23
    go_wp2_with fail
    go_ret
    exact ⟨by (simp [*]; omega), rfl⟩
theorem sneq_f {v : Int} {s : ByteArray} (h : Lib.itoa v = s.data.toList) : (Lib.itoa v == s.toList) = true := by
  rw [ByteArray.toList_eq]; simpa using h
theorem sneq_t {v : Int} {s : ByteArray} (h : Lib.itoa v ≠ s.data.toList) : (Lib.itoa v == s.toList) = false := by
  rw [ByteArray.toList_eq]; simpa using h
def Reads (w : World) (o : Option Int) (e : Ending) (w' : World) : Prop := e = .returned (.tuple #[.int .i64 (rdInt o), .bool (rdOk o)]) ∧ Below w.heap.size w w'
theorem reads_none {w w' : World} {o : Option Int} (h : o = none) (hb : Below w.heap.size w w') : Reads w o (.returned (.tuple #[.int .i64 0, .bool false])) w' := by subst h; exact ⟨rfl, hb⟩
theorem reads_some {w w' : World} {o : Option Int} {v : Int} (h : o = some v) (hb : Below w.heap.size w w') : Reads w o (.returned (.tuple #[.int .i64 v, .bool true])) w' := by subst h; exact ⟨rfl, hb⟩
theorem itoa_neq {v : Int} {s : ByteArray} (h : Lib.itoa v ≠ s.data.toList) : (⟨(Lib.itoa v).toArray⟩ : ByteArray) ≠ s := by
  intro e
  apply h
  rw [← e]
theorem itoa_eqs {v : Int} {s : ByteArray} (h : Lib.itoa v = s.data.toList) : (⟨(Lib.itoa v).toArray⟩ : ByteArray) = s := by
  rw [h]
set_option maxRecDepth 100000 in
set_option maxHeartbeats 4000000 in
theorem spec_ReadDecimal (s : ByteArray) (hs : s.size ≤ 1048576) (w : World) :
    Calls Tryd.prog 9 #[.string s] w (Reads w (readDec s.data.toList)) := by
  have hsl : s.data.toList.length = s.size := rfl
  have HSL := hid hsl
  clear hsl
  by_cases h0 : s.size < 1
  case pos =>
    have HN := hid (readDec_short (l := s.data.toList) (Or.inl (by rw [HSL.out]; exact h0)))
    go_enter Tryd.func9, Tryd.ntmps9
    go_wp2_with fail
    go_ret2
    exact reads_none HN.out (Below.refl _ _)
  case neg =>
  by_cases h11 : 11 < s.size
  case pos =>
    have HN := hid (readDec_short (l := s.data.toList) (Or.inr (by rw [HSL.out]; exact h11)))
    go_enter Tryd.func9, Tryd.ntmps9
    go_wp2_with fail
    go_ret2
    exact reads_none HN.out (Below.refl _ _)
  case neg =>
  go_enter Tryd.func9, Tryd.ntmps9
  go_wp2_with fail
  go_loop [4, 5] (fun n i => ∃ (j m : Nat), j ≤ s.size ∧ i = .int .i64 j ∧ n = .int .i64 m ∧ m < 100000000000 ∧ Hid ((part s.data.toList j).all isDig = true) ∧ Hid (m = dval 0 (part s.data.toList j))) (fun _ i => s.size - (intOf i).toNat)
  case atStart => exact ⟨0, 0, by omega, rfl, rfl, by omega, hid (by rw [part_zero]; rfl), hid (by rw [part_zero, dval_nil])⟩
  case round =>
    obtain ⟨j, m, hj, rfl, rfl, hm, HD, HM⟩ := hrel
    by_cases hlt : j < s.size
    case neg =>
      have HJ := hid (show j = s.size by omega)
      have hz0 : 0 < s.size := by omega
      have HL := hid (show part s.data.toList s.data.toList.length = part s.data.toList j by rw [HSL.out, HJ.out])
      have hmi : ((m : Nat) : Int) < 100000000000 := by omega
      have hc0 : s.data.toList[0]? = some s[0] := List.getElem?_eq_getElem (by rw [HSL.out]; omega)
      have HSG := hid (sgn_get hc0)
      have HV := hid (fun v (h : readDec s.data.toList = some v) => (readDec_val h).trans (by rw [HL.out, ← HM.out] : signed s.data.toList (dval 0 (part s.data.toList s.data.toList.length)) = signed s.data.toList m))
      clear hc0
      by_cases h45 : s[0].toNat = 45
      case pos =>
        have g45 : ((s[0].toNat : Int) == 45) = true := by simp; omega
        have HX := hid (show signed s.data.toList m = -(m : Int) by unfold signed; rw [HSG.out, h45]; rfl)
        by_cases hl : lint (-(m : Int)) = true
        case pos =>
          have hlim : -2147483648 ≤ (-(m : Int)) ∧ (-(m : Int)) ≤ 2147483647 := by simpa only [lint, Bool.and_eq_true, decide_eq_true_eq] using hl
          have HD1 := hid (spec_Decimal (-(m : Int)) (by omega) (by omega) w)
          clear hlim hmi
          by_cases he : Lib.itoa (-(m : Int)) = s.data.toList
          case pos =>
            have HR := hid (readDec_of hl he)
            have g1 := sneq_f he
            clear he
            go_wp2_with (first | (go_at_call 23; refine (spec_In32 _ _).mono ?_; rintro e w' ⟨rfl, rfl⟩) | (go_at_call 7; refine HD1.out.mono ?_; rintro e w2 ⟨rfl, hb⟩; have HB := hid hb; clear hb))
            go_ret2
            exact reads_some HR.out HB.out
          case neg =>
            have HR := hid (readDec_none (l := s.data.toList) (fun v hv h2 => he (by have h3 := HV.out v (readDec_of hv h2); rw [HX.out] at h3; rw [← h3]; exact h2)))
            have g1 := sneq_t he
            clear he
            go_wp2_with (first | (go_at_call 23; refine (spec_In32 _ _).mono ?_; rintro e w' ⟨rfl, rfl⟩) | (go_at_call 7; refine HD1.out.mono ?_; rintro e w2 ⟨rfl, hb⟩; have HB := hid hb; clear hb))
            go_ret2
            exact reads_none HR.out HB.out
        case neg =>
          have HR := hid (readDec_none (l := s.data.toList) (fun v hv h2 => hl (by have h3 := HV.out v (readDec_of hv h2); rw [HX.out] at h3; rw [← h3]; exact hv)))
          have hlf : lint (-(m : Int)) = false := by simpa using hl
          clear hl
          go_wp2_with (first | (go_at_call 23; refine (spec_In32 _ _).mono ?_; rintro e w' ⟨rfl, rfl⟩))
          go_ret2
          exact reads_none HR.out (Below.refl _ _)
      case neg =>
        have g45 : ((s[0].toNat : Int) == 45) = false := by simp; omega
        have HX := hid (show signed s.data.toList m = (m : Int) by unfold signed; rw [HSG.out, if_neg (by simpa using h45)])
        by_cases hl : lint (m : Int) = true
        case pos =>
          have hlim : -2147483648 ≤ (m : Int) ∧ (m : Int) ≤ 2147483647 := by simpa only [lint, Bool.and_eq_true, decide_eq_true_eq] using hl
          have HD1 := hid (spec_Decimal (m : Int) (by omega) (by omega) w)
          clear hlim hmi
          by_cases he : Lib.itoa (m : Int) = s.data.toList
          case pos =>
            have HR := hid (readDec_of hl he)
            have g1 := sneq_f he
            clear he
            go_wp2_with (first | (go_at_call 23; refine (spec_In32 _ _).mono ?_; rintro e w' ⟨rfl, rfl⟩) | (go_at_call 7; refine HD1.out.mono ?_; rintro e w2 ⟨rfl, hb⟩; have HB := hid hb; clear hb))
            go_ret2
            exact reads_some HR.out HB.out
          case neg =>
            have HR := hid (readDec_none (l := s.data.toList) (fun v hv h2 => he (by have h3 := HV.out v (readDec_of hv h2); rw [HX.out] at h3; rw [← h3]; exact h2)))
            have g1 := sneq_t he
            clear he
            go_wp2_with (first | (go_at_call 23; refine (spec_In32 _ _).mono ?_; rintro e w' ⟨rfl, rfl⟩) | (go_at_call 7; refine HD1.out.mono ?_; rintro e w2 ⟨rfl, hb⟩; have HB := hid hb; clear hb))
            go_ret2
            exact reads_none HR.out HB.out
        case neg =>
          have HR := hid (readDec_none (l := s.data.toList) (fun v hv h2 => hl (by have h3 := HV.out v (readDec_of hv h2); rw [HX.out] at h3; rw [← h3]; exact hv)))
          have hlf : lint (m : Int) = false := by simpa using hl
          clear hl
          go_wp2_with (first | (go_at_call 23; refine (spec_In32 _ _).mono ?_; rintro e w' ⟨rfl, rfl⟩))
          go_ret2
          exact reads_none HR.out (Below.refl _ _)

    case pos =>
      have HC := hid (show s.data.toList[j]? = some s[j] from List.getElem?_eq_getElem (by rw [HSL.out]; exact hlt))
      by_cases hj0 : j = 0
      case pos =>
        subst hj0
        have HSG := hid (sgn_get HC.out)
        by_cases h45 : s[0].toNat = 45
        case pos =>
          have HSN := hid (show sgn s.data.toList = true by rw [HSG.out, h45]; rfl)
          have HD2 := hid (show (part s.data.toList 1).all isDig = true by rw [part_sign HSN.out]; rfl)
          have HM2 := hid (show m = dval 0 (part s.data.toList 1) by rw [part_sign HSN.out, HM.out, part_zero])
          have g45 : ((s[0].toNat : Int) == 45) = true := by simp; omega
          clear h45
          go_wp2_with fail
          go_round
          case rel => exact ⟨1, m, by omega, by go_num, rfl, hm, HD2, HM2⟩
          case measure => first | (simp [intOf]; done) | (simp [intOf]; omega)
        case neg =>
          have g45 : ((s[0].toNat : Int) == 45) = false := by simp; omega
          have HNS := hid (show ¬ (0 = 0 ∧ sgn s.data.toList = true) by rw [HSG.out]; simpa using h45)
          clear h45
          by_cases hd : isDig s[0] = true
          case pos =>
            have hdi := isDig_iff hd
            have HD2 := hid (show (part s.data.toList (1)).all isDig = true by rw [part_succ HC.out HNS.out, List.all_append, HD.out]; simp [hd])
            have HM2 := hid (show dstep m s[0] = dval 0 (part s.data.toList (1)) by rw [part_succ HC.out HNS.out, dval_append, ← HM.out, dval_cons, dval_nil])
            have HML := hid (show dstep m s[0] < 100000000000 by
              have h1 := dval_lt (part s.data.toList (1)) 0 HD2.out
              rw [← HM2.out] at h1
              have h2 := part_length s.data.toList (1)
              have h3 : 10 ^ (part s.data.toList (1)).length ≤ 10 ^ 11 := Nat.pow_le_pow_right (by omega) (by omega)
              rw [show 10 ^ 11 = 100000000000 from rfl] at h3
              omega)
            have hst : dstep m s[0] = m * 10 + (s[0].toNat - 48) := rfl
            have HST := hid hst
            obtain ⟨hd1, hd2⟩ := hdi
            have hd3 : 48 ≤ (s[0].toNat : Int) := by omega
            have hd4 : (s[0].toNat : Int) ≤ 57 := by omega
            clear hst
            go_wp2_with (first | (go_at_call 22; refine (spec_Digit8 _ _).mono ?_; rintro e w' ⟨rfl, rfl⟩))
            go_round
            case rel => exact ⟨1, dstep m s[0], by omega, by go_num, by rw [HST.out]; exact congrArg _ (by omega), HML.out, HD2, HM2⟩
            case measure => first | (simp [intOf]; done) | (simp [intOf]; omega)
          case neg =>
            have HN := hid (readDec_bad (l := s.data.toList) (j := 1) (by rw [HSL.out]; omega) (by rw [part_succ HC.out HNS.out, List.all_append, HD.out]; simp [hd]))
            have hdf : isDig s[0] = false := by simpa using hd
            clear hd
            go_wp2_with (first | (go_at_call 22; refine (spec_Digit8 _ _).mono ?_; rintro e w' ⟨rfl, rfl⟩))
            go_ret2
            exact reads_none HN.out (Below.refl _ _)

      case neg =>
        have gj : ((j : Int) == 0) = false := by simp; omega
        have HNS := hid (show ¬ (j = 0 ∧ sgn s.data.toList = true) from fun h => hj0 h.1)
        by_cases hd : isDig s[j] = true
        case pos =>
          have hdi := isDig_iff hd
          have HD2 := hid (show (part s.data.toList (j + 1)).all isDig = true by rw [part_succ HC.out HNS.out, List.all_append, HD.out]; simp [hd])
          have HM2 := hid (show dstep m s[j] = dval 0 (part s.data.toList (j + 1)) by rw [part_succ HC.out HNS.out, dval_append, ← HM.out, dval_cons, dval_nil])
          have HML := hid (show dstep m s[j] < 100000000000 by
            have h1 := dval_lt (part s.data.toList (j + 1)) 0 HD2.out
            rw [← HM2.out] at h1
            have h2 := part_length s.data.toList (j + 1)
            have h3 : 10 ^ (part s.data.toList (j + 1)).length ≤ 10 ^ 11 := Nat.pow_le_pow_right (by omega) (by omega)
            rw [show 10 ^ 11 = 100000000000 from rfl] at h3
            omega)
          have hst : dstep m s[j] = m * 10 + (s[j].toNat - 48) := rfl
          have HST := hid hst
          obtain ⟨hd1, hd2⟩ := hdi
          have hd3 : 48 ≤ (s[j].toNat : Int) := by omega
          have hd4 : (s[j].toNat : Int) ≤ 57 := by omega
          clear hst
          go_wp2_with (first | (go_at_call 22; refine (spec_Digit8 _ _).mono ?_; rintro e w' ⟨rfl, rfl⟩))
          go_round
          case rel => exact ⟨j + 1, dstep m s[j], by omega, by go_num, by rw [HST.out]; exact congrArg _ (by omega), HML.out, HD2, HM2⟩
          case measure => first | (simp [intOf]; done) | (simp [intOf]; omega)
        case neg =>
          have HN := hid (readDec_bad (l := s.data.toList) (j := j + 1) (by rw [HSL.out]; omega) (by rw [part_succ HC.out HNS.out, List.all_append, HD.out]; simp [hd]))
          have hdf : isDig s[j] = false := by simpa using hd
          clear hd
          go_wp2_with (first | (go_at_call 22; refine (spec_Digit8 _ _).mono ?_; rintro e w' ⟨rfl, rfl⟩))
          go_ret2
          exact reads_none HN.out (Below.refl _ _)

end Go.Proofs.YtikhofcjkcbpbaaDoor
