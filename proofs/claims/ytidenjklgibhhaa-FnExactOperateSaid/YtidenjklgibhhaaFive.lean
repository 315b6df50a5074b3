/- Walks of OperatorOf, CodeName, Operate, of the program and of the reference. -/
import Derived.Test.YtidenjklgibhhaaThree
namespace Go.Proofs.Ytidenjklgibhhaa
open Go.ChangeShapes Go.WideShapes Go.ChangeAt Go.RowKit

/-! ### OperatorOf -/
def opL : List ByteArray := [⟨#[43]⟩, ⟨#[45]⟩, ⟨#[42]⟩, ⟨#[47]⟩, ⟨#[60]⟩, ⟨#[61]⟩]
def opOf (s : ByteArray) : Int := idxFrom s 0 opL + 1
theorem opText_at {k : Nat} {t : ByteArray} (h : opL[k]? = some t) : opText ((k : Int) + 1) = t := by
  match k, h with
  | 0, h | 1, h | 2, h | 3, h | 4, h | 5, h => simp [opL] at h; subst h; rfl
  | k + 6, h => simp [opL] at h

theorem spec_Operators (w : World) : Calls Try.prog 32 #[] w fun e w' => e = .returned (.slice (some ⟨w.heap.size, 0, none⟩) 6 6) ∧ StrsAt w' w.heap.size 0 opL ∧ Below w.heap.size w w' := by
  go_enter Try.func32, Try.ntmps32
  go_wp2
  go_ret
  refine ⟨rfl, ?_, (Below.refl _ _).alloc (Nat.le_refl _) _⟩
  intro i t hi
  match i, hi with
  | 0, hi | 1, hi | 2, hi | 3, hi | 4, hi | 5, hi => simp [opL] at hi; subst hi; simp
  | i + 6, hi => simp [opL] at hi

theorem spec_OperatorOf (s : ByteArray) (w : World) : Calls Try.prog 19 #[.string s] w fun e w' => e = .returned (.int .i64 (opOf s)) ∧ Below w.heap.size w w' := by
  go_enter Try.func19, Try.ntmps19
  go_wp2_with fail
  go_loopw [3] (fun i wr => ∃ k : Nat, k ≤ 6 ∧ i = .int .i64 k ∧ Below w.heap.size w wr ∧ Hid (∀ (j : Nat) t, j < k → opL[j]? = some t → t ≠ s)) (fun i _ => 6 - (intOf i).toNat)
  case atStart => exact ⟨0, by omega, rfl, Below.refl _ _, fun j t hj => absurd hj (by omega)⟩
  case round =>
    obtain ⟨k, hk, rfl, hb, HN⟩ := hrel
    go_wp2_with fail
    refine (spec_Operators _).mono ?_
    rintro e w1 ⟨rfl, -, hb1⟩
    by_cases hlt : k < 6
    · go_wp2_with fail
      refine (spec_Operators _).mono ?_
      rintro e w2 ⟨rfl, hs2, hb2⟩
      obtain ⟨t, ht⟩ : ∃ t, opL[k]? = some t := ⟨_, List.getElem?_eq_getElem hlt⟩
      have hc := hs2 k t ht
      have HT := hid ht
      have HS := hid hs2
      clear ht hs2
      simp only [Nat.zero_add] at hc
      have hb3 : Below w.heap.size w w2 := hb.trans ((hb1.mono hb.size).trans (hb2.mono (Nat.le_trans hb.size hb1.size)))
      by_cases he : t = s
      · have hq := bytes_eq he
        have HE := hid he
        clear he
        go_wp2
        go_ret
        refine ⟨ret_int ?_, hb3⟩
        rw [opOf, idxFrom_at s 0 k opL HN.out (by rw [HT.out, HE.out])]
        simp
      · have hq := bytes_ne he
        have HE := hid he
        clear he
        go_wp2
        go_roundw
        case rel =>
          refine ⟨k + 1, by omega, by go_num, hb3, fun j u hj hu => ?_⟩
          rcases Nat.lt_succ_iff_lt_or_eq.1 hj with hj' | rfl
          · exact HN.out j u hj' hu
          · have e : u = t := Option.some.inj (hu.symm.trans HT.out)
            subst e
            exact HE.out
        case measure => simp [intOf]; omega
    · have hb3 : Below w.heap.size w w1 := hb.trans (hb1.mono hb.size)
      go_wp2
      go_ret
      refine ⟨ret_int ?_, hb3⟩
      rw [opOf, idxFrom_none s 0 opL fun j t hj => HN.out j t (by have := (List.getElem?_eq_some_iff.1 hj).1; simp [opL] at this; omega) hj]
      rfl

theorem impl_OperatorOf (s : ByteArray) (w : World) : Calls Try.prog 20 #[.string s] w fun e w' => e = .returned (.int .i64 (opOf s)) ∧ w = w' := by
  go_enter Try.func20, Try.ntmps20
  go_wp2_with fail
  go_loop [3] (fun i => ∃ k : Nat, k ≤ 6 ∧ i = .int .i64 ((k : Int) + 1) ∧ Hid (∀ (j : Nat) t, j < k → opL[j]? = some t → t ≠ s)) (fun i => 7 - (intOf i).toNat)
  case atStart => exact ⟨0, by omega, rfl, fun j t hj => absurd hj (by omega)⟩
  case round =>
    obtain ⟨k, hk, rfl, HN⟩ := hrel
    by_cases hlt : k < 6
    · obtain ⟨t, ht⟩ : ∃ t, opL[k]? = some t := ⟨_, List.getElem?_eq_getElem hlt⟩
      have HO := hid (opText_at ht)
      have HT := hid ht
      clear ht
      by_cases he : t = s
      · have hq := bytes_eq (HO.out.trans he)
        have HE := hid he
        clear he
        go_wp2_with (go_at_call 16; refine (impl_OperatorText _ _).mono ?_; rintro e w' ⟨rfl, rfl⟩)
        go_ret
        refine ⟨ret_int ?_, rfl⟩
        rw [opOf, idxFrom_at s 0 k opL HN.out (by rw [HT.out, HE.out])]
        simp
      · have hq := bytes_ne (fun e => he (HO.out.symm.trans e))
        have HE := hid he
        clear he
        go_wp2_with (go_at_call 16; refine (impl_OperatorText _ _).mono ?_; rintro e w' ⟨rfl, rfl⟩)
        go_round
        case rel =>
          refine ⟨k + 1, by omega, by go_num, fun j u hj hu => ?_⟩
          rcases Nat.lt_succ_iff_lt_or_eq.1 hj with hj' | rfl
          · exact HN.out j u hj' hu
          · have e : u = t := Option.some.inj (hu.symm.trans HT.out)
            subst e
            exact HE.out
        case measure => simp [intOf]; omega
    · go_wp2
      go_ret
      refine ⟨ret_int ?_, rfl⟩
      rw [opOf, idxFrom_none s 0 opL fun j t hj => HN.out j t (by have := (List.getElem?_eq_some_iff.1 hj).1; simp [opL] at this; omega) hj]
      rfl

/-! ### CodeName -/
def codes : List ByteArray := [⟨#[111, 107]⟩, ⟨#[105, 110, 118, 97, 108, 105, 100]⟩, ⟨#[114, 97, 110, 103, 101]⟩, ⟨#[110, 111, 116, 102, 111, 117, 110, 100]⟩, ⟨#[102, 117, 108, 108]⟩, ⟨#[115, 116, 97, 116, 101]⟩, ⟨#[115, 121, 110, 116, 97, 120]⟩, ⟨#[110, 97, 109, 101]⟩, ⟨#[116, 121, 112, 101]⟩, ⟨#[108, 101, 118, 101, 108]⟩, ⟨#[108, 105, 110, 101, 97, 114]⟩, ⟨#[99, 108, 97, 115, 104]⟩, ⟨#[98, 117, 100, 103, 101, 116]⟩, ⟨#[114, 101, 97, 100]⟩, ⟨#[102, 111, 114, 109, 97, 116]⟩]
def codeName (n : Int) : ByteArray := if 0 ≤ n ∧ n ≤ 14 then codes[n.toNat]?.getD default else ⟨#[]⟩
theorem fifteen {n : Int} (h : 0 ≤ n ∧ n ≤ 14) : n = 0 ∨ n = 1 ∨ n = 2 ∨ n = 3 ∨ n = 4 ∨ n = 5 ∨ n = 6 ∨ n = 7 ∨ n = 8 ∨ n = 9 ∨ n = 10 ∨ n = 11 ∨ n = 12 ∨ n = 13 ∨ n = 14 := by omega

set_option maxHeartbeats 4000000 in
theorem impl_CodeName (n : Int) (w : World) : Calls Try.prog 18 #[.int .i64 n] w fun e w' => e = .returned (.string (codeName n)) ∧ Below w.heap.size w w' := by
  by_cases h : 0 ≤ n ∧ n ≤ 14
  · obtain rfl | rfl | rfl | rfl | rfl | rfl | rfl | rfl | rfl | rfl | rfl | rfl | rfl | rfl | rfl := fifteen h
    all_goals
      clear h
      go_enter Try.func18, Try.ntmps18
      go_wp2
      go_ret
      exact ⟨ret_string (by simp [codeName, codes]), (Below.refl _ _).alloc (Nat.le_refl _) _⟩
  · have e : codeName n = ⟨#[]⟩ := by rw [codeName, if_neg h]
    rw [e]
    clear e
    by_cases h0 : n < 0
    · go_enter Try.func18, Try.ntmps18
      go_wp2
      go_ret
      exact ⟨rfl, (Below.refl _ _).alloc (Nat.le_refl _) _⟩
    · have h1 : 15 ≤ n := by omega
      go_enter Try.func18, Try.ntmps18
      go_wp2
      go_ret
      exact ⟨rfl, (Below.refl _ _).alloc (Nat.le_refl _) _⟩
set_option maxHeartbeats 4000000 in
theorem spec_CodeName (n : Int) (w : World) : Calls Try.prog 17 #[.int .i64 n] w fun e w' => e = .returned (.string (codeName n)) ∧ Below w.heap.size w w' := by
  by_cases h : 0 ≤ n ∧ n ≤ 14
  · obtain rfl | rfl | rfl | rfl | rfl | rfl | rfl | rfl | rfl | rfl | rfl | rfl | rfl | rfl | rfl := fifteen h
    all_goals
      clear h
      go_enter Try.func17, Try.ntmps17
      go_wp2
      go_ret
      exact ⟨ret_string (by simp [codeName, codes]), (Below.refl _ _).alloc (Nat.le_refl _) _⟩
  · have e : codeName n = ⟨#[]⟩ := by rw [codeName, if_neg h]
    have hin : inR n 0 14 = false := inR_f (by omega)
    rw [e]
    clear e
    go_enter Try.func17, Try.ntmps17
    go_wp2_with (go_at_call 31; refine (spec_In _ _ _ _).mono ?_; rintro e w' ⟨rfl, rfl⟩)
    go_ret
    exact ⟨rfl, Below.refl _ _⟩

/-! ### Operate -/
theorem wrap32_bd (n : Int) : -2147483648 ≤ wrap32 n ∧ wrap32 n ≤ 2147483647 := by unfold wrap32; omega
theorem impl_truth (b : Bool) (w : World) : Calls Try.prog 44 #[.bool b] w fun e w' => e = .returned (.int .i64 (if b then 1 else 0)) ∧ w = w' := by
  cases b
  all_goals
    go_enter Try.func44, Try.ntmps44
    go_wp2
    go_ret
    exact ⟨rfl, rfl⟩
theorem spec_Bool (b : Bool) (w : World) : Calls Try.prog 43 #[.bool b] w fun e w' => e = .returned (.int .i64 (if b then 1 else 0)) ∧ w = w' := by
  cases b
  all_goals
    go_enter Try.func43, Try.ntmps43
    go_wp2
    go_ret
    exact ⟨rfl, rfl⟩
def operate (op a b : Int) : Int :=
  if op = 1 then wrap32 (wrap32 a + wrap32 b)
  else if op = 2 then wrap32 (wrap32 a - wrap32 b)
  else if op = 3 then wrap32 (wrap64 (wrap32 a * wrap32 b))
  else if op = 4 then (if wrap32 b = 0 then 0 else wrap32 (wrap64 ((wrap32 a).tdiv (wrap32 b))))
  else if op = 5 then (if decide (wrap32 a < wrap32 b) then 1 else 0)
  else if op = 6 then (if (wrap32 a == wrap32 b) then 1 else 0)
  else 0
set_option maxHeartbeats 4000000 in
theorem impl_Operate (op a b : Int) (w : World) : Calls Try.prog 30 #[.int .i64 op, .int .i64 a, .int .i64 b] w fun e w' => e = .returned (.int .i64 (operate op a b)) ∧ w = w' := by
  obtain ⟨ha1, ha2⟩ := wrap32_bd a
  obtain ⟨hb1, hb2⟩ := wrap32_bd b
  by_cases h4 : op = 4
  · subst h4
    by_cases h0 : wrap32 b = 0
    · have hz : (wrap32 b == 0) = true := by simp [h0]
      rw [show operate 4 a b = 0 by simp [operate, h0]]
      clear h0
      go_enter Try.func30, Try.ntmps30
      go_wp2_with (first
        | (go_at_call 14; refine (impl_Wrap32 _ _).mono ?_; rintro e w' ⟨rfl, rfl⟩)
        | (go_at_call 44; refine (impl_truth _ _).mono ?_; rintro e w' ⟨rfl, rfl⟩))
      go_ret
      exact ⟨rfl, rfl⟩
    · have hz : (wrap32 b == 0) = false := by simp [h0]
      rw [show operate 4 a b = wrap32 (wrap64 ((wrap32 a).tdiv (wrap32 b))) by simp [operate, h0]]
      go_enter Try.func30, Try.ntmps30
      go_wp2_with (first
        | (go_at_call 14; refine (impl_Wrap32 _ _).mono ?_; rintro e w' ⟨rfl, rfl⟩)
        | (go_at_call 44; refine (impl_truth _ _).mono ?_; rintro e w' ⟨rfl, rfl⟩))
      go_ret
      exact ⟨rfl, rfl⟩
  by_cases h1 : op = 1
  · subst h1
    go_enter Try.func30, Try.ntmps30
    go_wp2_with (first
      | (go_at_call 14; refine (impl_Wrap32 _ _).mono ?_; rintro e w' ⟨rfl, rfl⟩)
      | (go_at_call 44; refine (impl_truth _ _).mono ?_; rintro e w' ⟨rfl, rfl⟩))
    go_ret
    exact ⟨rfl, rfl⟩
  by_cases h2 : op = 2
  · subst h2
    go_enter Try.func30, Try.ntmps30
    go_wp2_with (first
      | (go_at_call 14; refine (impl_Wrap32 _ _).mono ?_; rintro e w' ⟨rfl, rfl⟩)
      | (go_at_call 44; refine (impl_truth _ _).mono ?_; rintro e w' ⟨rfl, rfl⟩))
    go_ret
    exact ⟨rfl, rfl⟩
  by_cases h3 : op = 3
  · subst h3
    go_enter Try.func30, Try.ntmps30
    go_wp2_with (first
      | (go_at_call 14; refine (impl_Wrap32 _ _).mono ?_; rintro e w' ⟨rfl, rfl⟩)
      | (go_at_call 44; refine (impl_truth _ _).mono ?_; rintro e w' ⟨rfl, rfl⟩))
    go_ret
    exact ⟨rfl, rfl⟩
  by_cases h5 : op = 5
  · subst h5
    by_cases hc : wrap32 a < wrap32 b
    all_goals
      go_enter Try.func30, Try.ntmps30
      go_wp2_with (first
        | (go_at_call 14; refine (impl_Wrap32 _ _).mono ?_; rintro e w' ⟨rfl, rfl⟩)
        | (go_at_call 44; refine (impl_truth _ _).mono ?_; rintro e w' ⟨rfl, rfl⟩))
      go_ret
      exact ⟨ret_int (by simp [operate]; try omega), rfl⟩
  by_cases h6 : op = 6
  · subst h6
    cases hc : (wrap32 a == wrap32 b)
    all_goals
      go_enter Try.func30, Try.ntmps30
      go_wp2_with (first
        | (go_at_call 14; refine (impl_Wrap32 _ _).mono ?_; rintro e w' ⟨rfl, rfl⟩)
        | (go_at_call 44; refine (impl_truth _ _).mono ?_; rintro e w' ⟨rfl, rfl⟩))
      go_ret
      exact ⟨ret_int (by simp only [operate, hc]; rfl), rfl⟩
  rw [show operate op a b = 0 by unfold operate; repeat (rw [if_neg (by assumption)])]
  have g1 : (op == 1) = false := by simp [h1]
  have g2 : (op == 2) = false := by simp [h2]
  have g3 : (op == 3) = false := by simp [h3]
  have g4 : (op == 4) = false := by simp [h4]
  have g5 : (op == 5) = false := by simp [h5]
  have g6 : (op == 6) = false := by simp [h6]
  clear h1 h2 h3 h4 h5 h6
  go_enter Try.func30, Try.ntmps30
  go_wp2_with (first
    | (go_at_call 14; refine (impl_Wrap32 _ _).mono ?_; rintro e w' ⟨rfl, rfl⟩)
    | (go_at_call 44; refine (impl_truth _ _).mono ?_; rintro e w' ⟨rfl, rfl⟩))
  go_ret
  exact ⟨rfl, rfl⟩
set_option maxHeartbeats 4000000 in
theorem spec_Operate (op a b : Int) (w : World) : Calls Try.prog 29 #[.int .i64 op, .int .i64 a, .int .i64 b] w fun e w' => e = .returned (.int .i64 (operate op a b)) ∧ w = w' := by
  obtain ⟨ha1, ha2⟩ := wrap32_bd a
  obtain ⟨hb1, hb2⟩ := wrap32_bd b
  by_cases h4 : op = 4
  · subst h4
    by_cases h0 : wrap32 b = 0
    · have hz : (wrap32 b == 0) = true := by simp [h0]
      rw [show operate 4 a b = 0 by simp [operate, h0]]
      clear h0
      go_enter Try.func29, Try.ntmps29
      go_wp2_with (first
        | (go_at_call 13; refine (spec_Wrap32 _ _).mono ?_; rintro e w' ⟨rfl, rfl⟩)
        | (go_at_call 43; refine (spec_Bool _ _).mono ?_; rintro e w' ⟨rfl, rfl⟩))
      go_ret
      exact ⟨rfl, rfl⟩
    · have hz : (wrap32 b == 0) = false := by simp [h0]
      rw [show operate 4 a b = wrap32 (wrap64 ((wrap32 a).tdiv (wrap32 b))) by simp [operate, h0]]
      go_enter Try.func29, Try.ntmps29
      go_wp2_with (first
        | (go_at_call 13; refine (spec_Wrap32 _ _).mono ?_; rintro e w' ⟨rfl, rfl⟩)
        | (go_at_call 43; refine (spec_Bool _ _).mono ?_; rintro e w' ⟨rfl, rfl⟩))
      go_ret
      exact ⟨rfl, rfl⟩
  by_cases h1 : op = 1
  · subst h1
    go_enter Try.func29, Try.ntmps29
    go_wp2_with (first
      | (go_at_call 13; refine (spec_Wrap32 _ _).mono ?_; rintro e w' ⟨rfl, rfl⟩)
      | (go_at_call 43; refine (spec_Bool _ _).mono ?_; rintro e w' ⟨rfl, rfl⟩))
    go_ret
    exact ⟨rfl, rfl⟩
  by_cases h2 : op = 2
  · subst h2
    go_enter Try.func29, Try.ntmps29
    go_wp2_with (first
      | (go_at_call 13; refine (spec_Wrap32 _ _).mono ?_; rintro e w' ⟨rfl, rfl⟩)
      | (go_at_call 43; refine (spec_Bool _ _).mono ?_; rintro e w' ⟨rfl, rfl⟩))
    go_ret
    exact ⟨rfl, rfl⟩
  by_cases h3 : op = 3
  · subst h3
    go_enter Try.func29, Try.ntmps29
    go_wp2_with (first
      | (go_at_call 13; refine (spec_Wrap32 _ _).mono ?_; rintro e w' ⟨rfl, rfl⟩)
      | (go_at_call 43; refine (spec_Bool _ _).mono ?_; rintro e w' ⟨rfl, rfl⟩))
    go_ret
    exact ⟨rfl, rfl⟩
  by_cases h5 : op = 5
  · subst h5
    by_cases hc : wrap32 a < wrap32 b
    all_goals
      go_enter Try.func29, Try.ntmps29
      go_wp2_with (first
        | (go_at_call 13; refine (spec_Wrap32 _ _).mono ?_; rintro e w' ⟨rfl, rfl⟩)
        | (go_at_call 43; refine (spec_Bool _ _).mono ?_; rintro e w' ⟨rfl, rfl⟩))
      go_ret
      exact ⟨ret_int (by simp [operate]; try omega), rfl⟩
  by_cases h6 : op = 6
  · subst h6
    cases hc : (wrap32 a == wrap32 b)
    all_goals
      go_enter Try.func29, Try.ntmps29
      go_wp2_with (first
        | (go_at_call 13; refine (spec_Wrap32 _ _).mono ?_; rintro e w' ⟨rfl, rfl⟩)
        | (go_at_call 43; refine (spec_Bool _ _).mono ?_; rintro e w' ⟨rfl, rfl⟩))
      go_ret
      exact ⟨ret_int (by simp only [operate, hc]; rfl), rfl⟩
  rw [show operate op a b = 0 by unfold operate; repeat (rw [if_neg (by assumption)])]
  have g1 : (op == 1) = false := by simp [h1]
  have g2 : (op == 2) = false := by simp [h2]
  have g3 : (op == 3) = false := by simp [h3]
  have g4 : (op == 4) = false := by simp [h4]
  have g5 : (op == 5) = false := by simp [h5]
  have g6 : (op == 6) = false := by simp [h6]
  clear h1 h2 h3 h4 h5 h6
  go_enter Try.func29, Try.ntmps29
  go_wp2_with (first
    | (go_at_call 13; refine (spec_Wrap32 _ _).mono ?_; rintro e w' ⟨rfl, rfl⟩)
    | (go_at_call 43; refine (spec_Bool _ _).mono ?_; rintro e w' ⟨rfl, rfl⟩))
  go_ret
  exact ⟨rfl, rfl⟩
end Go.Proofs.Ytidenjklgibhhaa
