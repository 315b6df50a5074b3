/- Walks: the line and the column of an offset, in the reference and in the program. -/
import Derived.Test.YtlbebnmhldolnaaIn
import Derived.Test.YtlbebnmhldolnaaShelf
namespace Go.Proofs.Ytlbebnmhldolnaa
open Go.ChangeShapes Go.WideShapes Go.ChangeAt Go.RowKit
set_option linter.unusedVariables false

/-- The letter of a new line among the first k. -/
def newl (s : ByteArray) (k : Nat) : Nat := (s.data.toList.take k).count 10
def lineCol (s : ByteArray) (n : Int) : Int × Int := if 0 ≤ n ∧ n ≤ s.size then (1 + (newl s n.toNat : Int), n - Lib.lastIdx s 10 n.toNat) else (0, 0)
theorem newl_zero (s : ByteArray) : newl s 0 = 0 := by simp [newl]
theorem newl_le (s : ByteArray) (k : Nat) : newl s k ≤ k := by
  have h := List.count_le_length (a := (10 : UInt8)) (l := s.data.toList.take k)
  rw [List.length_take] at h
  unfold newl
  omega
theorem get_bang {s : ByteArray} {k : Nat} (h : k < s.size) : s.data[k]! = s[k]'h := by
  have h' : k < s.data.size := h
  rw [getElem!_pos s.data k h']; rfl
theorem newl_succ {s : ByteArray} {k : Nat} (h : k < s.size) : newl s (k + 1) = newl s k + (if ((s[k]'h).toNat : Int) = 10 then 1 else 0) := by
  have h' : k < s.data.toList.length := by rw [Array.length_toList]; exact h
  unfold newl
  rw [List.take_succ_eq_append_getElem h', List.count_append]
  have e : s.data.toList[k] = s[k]'h := by rw [Array.getElem_toList]; rfl
  rw [e]
  by_cases hq : s[k]'h = 10
  · rw [hq]; simp
  · have : ¬ ((s[k]'h).toNat : Int) = 10 := fun c => hq (UInt8.toNat_inj.1 (show (s[k]'h).toNat = 10 by omega))
    rw [if_neg this]
    simp [hq]
theorem lastIdx_succ {s : ByteArray} {k : Nat} (h : k < s.size) : Lib.lastIdx s 10 (k + 1) = if ((s[k]'h).toNat : Int) = 10 then (k : Int) else Lib.lastIdx s 10 k := by
  rw [Lib.lastIdx, get_bang h]
theorem lastIdx_lt (s : ByteArray) (k : Nat) : Lib.lastIdx s 10 k < k ∧ -1 ≤ Lib.lastIdx s 10 k := by
  rcases Lib.lastIdx_spec s 10 k with ⟨e, _⟩ | ⟨i, hi, e, _⟩ <;> omega
theorem spec_LineColumn (s : ByteArray) (n : Int) (hs : s.size ≤ 1048576) (w : World) :
    Calls Try.prog 7 #[.string s, .int .i64 n] w fun e w' => e = .returned (.tuple #[.int .i64 (lineCol s n).1, .int .i64 (lineCol s n).2]) ∧ w = w' := by
  by_cases hin : 0 ≤ n ∧ n ≤ s.size
  case neg =>
    have HF := hid (show lineCol s n = (0, 0) from if_neg hin)
    have HIN := hid (show inR n 0 s.size = false from inR_f (by omega))
    clear hin
    go_enter Try.func7, Try.ntmps7
    go_wp2_with fail
    refine (spec_In _ _ _ _).mono ?_
    rw [HIN.out]
    rintro e w2 ⟨rfl, rfl⟩
    go_wp2_with fail
    go_ret2
    exact ⟨by rw [HF.out]; rfl, rfl⟩
  case pos =>
  have HF := hid (show lineCol s n = (1 + (newl s n.toNat : Int), n - Lib.lastIdx s 10 n.toNat) from if_pos hin)
  have HIN := hid (show inR n 0 s.size = true from inR_t hin.1 hin.2)
  obtain ⟨m, rfl⟩ : ∃ m : Nat, n = m := ⟨n.toNat, by omega⟩
  have hm : m ≤ s.size := by omega
  clear hin
  rw [Int.toNat_natCast] at HF
  go_enter Try.func7, Try.ntmps7
  go_wp2_with fail
  refine (spec_In _ _ _ _).mono ?_
  rw [HIN.out]
  rintro e w2 ⟨rfl, rfl⟩
  go_wp2_with fail
  go_loopw [6, 7, 8] (fun l c i wr => ∃ (j : Nat) (x y : Int), j ≤ m ∧ i = .int .i64 j ∧ l = .int .i64 x ∧ c = .int .i64 y ∧ Hid (x = 1 + (newl s j : Nat)) ∧ Hid (y = j - Lib.lastIdx s 10 j) ∧ w = wr) (fun _ _ i _ => m - (intOf i).toNat)
  case atStart => exact ⟨0, 1, 1, by omega, rfl, rfl, rfl, hid (by rw [newl_zero]; rfl), hid (by simp [Lib.lastIdx]), rfl⟩
  case round =>
    obtain ⟨j, x, y, hj, rfl, rfl, rfl, HX, HY, rfl⟩ := hrel
    have hx1 := newl_le s j
    have hy1 := lastIdx_lt s j
    have hx : 1 ≤ x ∧ x ≤ 1048577 := by have := HX.out; omega
    have hy : 1 ≤ y ∧ y ≤ 1048577 := by have := HY.out; omega
    obtain ⟨hxa, hxb⟩ := hx
    obtain ⟨hya, hyb⟩ := hy
    clear hx1 hy1
    by_cases hlt : j < m
    case pos =>
      have hls : j < s.size := by omega
      have HN := hid (newl_succ hls)
      have HL := hid (lastIdx_succ hls)
      generalize hbv : ((s[j]'hls).toNat : Int) = v at HN HL
      by_cases hq : v = 10
      case pos =>
        have HN1 := hid (show newl s (j + 1) = newl s j + 1 by rw [HN.out, if_pos hq])
        have HL1 := hid (show Lib.lastIdx s 10 (j + 1) = j by rw [HL.out, if_pos hq])
        have gq : (v == 10) = true := by simp [hq]
        have gb : ((s[j]'hls).toNat == 10) = true := by simp; omega
        clear HN HL hq
        go_wp2_with fail
        go_roundw
        case rel => exact ⟨j + 1, _, _, by omega, by go_num, rfl, rfl, hid (by have := HN1.out; have := HX.out; omega), hid (by have := HL1.out; omega), by first | rfl | trivial⟩
        case measure => simp [intOf]; omega
      case neg =>
        have HN1 := hid (show newl s (j + 1) = newl s j by rw [HN.out, if_neg hq]; rfl)
        have HL1 := hid (show Lib.lastIdx s 10 (j + 1) = Lib.lastIdx s 10 j by rw [HL.out, if_neg hq])
        have gq : (v == 10) = false := by simp [hq]
        have gb : ((s[j]'hls).toNat == 10) = false := by simp; omega
        clear HN HL hq
        go_wp2_with fail
        go_roundw
        case rel => exact ⟨j + 1, _, _, by omega, by go_num, rfl, rfl, hid (by have := HN1.out; have := HX.out; omega), hid (by have := HL1.out; have := HY.out; omega), by first | rfl | trivial⟩
        case measure => simp [intOf]; omega
    case neg =>
      obtain rfl : j = m := by omega
      go_wp2_with fail
      go_ret2
      exact ⟨by rw [HF.out, HX.out, HY.out]; rfl, rfl⟩

theorem lastIdx_take (s : ByteArray) (m : Nat) (hm : m ≤ s.size) : ∀ k, k ≤ m → Lib.lastIdx (s.extract 0 m) 10 k = Lib.lastIdx s 10 k
  | 0, _ => rfl
  | k + 1, hk => by
    have hks : k < s.size := by omega
    have hp : k < (s.extract 0 m).size := by rw [ByteArray.size_extract]; omega
    rw [lastIdx_succ hp, lastIdx_succ hks, lastIdx_take s m hm k (by omega)]
    have : (s.extract 0 m)[k]'hp = s[k]'hks := by rw [ByteArray.getElem_extract]; simp
    rw [this]
theorem impl_LineColumn (s : ByteArray) (n : Int) (hs : s.size ≤ 1048576) (w : World) :
    Calls Try.prog 8 #[.string s, .int .i64 n] w fun e w' => e = .returned (.tuple #[.int .i64 (lineCol s n).1, .int .i64 (lineCol s n).2]) ∧ w = w' := by
  by_cases h0 : n < 0
  case pos =>
    have HF := hid (show lineCol s n = (0, 0) from if_neg (by omega))
    have g0 : decide (n < 0) = true := decide_eq_true h0
    clear h0
    go_enter Try.func8, Try.ntmps8
    go_wp2_with fail
    go_ret2
    exact ⟨by rw [HF.out]; rfl, rfl⟩
  case neg =>
  have g0 : decide (n < 0) = false := decide_eq_false h0
  by_cases h1 : (s.size : Int) < n
  case pos =>
    have HF := hid (show lineCol s n = (0, 0) from if_neg (by omega))
    have g1 : decide ((s.size : Int) < n) = true := decide_eq_true h1
    clear h0 h1
    go_enter Try.func8, Try.ntmps8
    go_wp2_with fail
    go_ret2
    exact ⟨by rw [HF.out]; rfl, rfl⟩
  case neg =>
  have g1 : decide ((s.size : Int) < n) = false := decide_eq_false h1
  have HF := hid (show lineCol s n = (1 + (newl s n.toNat : Int), n - Lib.lastIdx s 10 n.toNat) from if_pos ⟨by omega, by omega⟩)
  obtain ⟨m, rfl⟩ : ∃ m : Nat, n = m := ⟨n.toNat, by omega⟩
  have hm : m ≤ s.size := by omega
  clear h0 h1
  rw [Int.toNat_natCast] at HF
  have hps : (s.extract 0 m).size = m := by rw [ByteArray.size_extract]; omega
  have hct : Lib.countByte (s.extract 0 m).data.toList 10 = newl s m := by
    unfold Lib.countByte newl
    rw [ByteArray.data_extract, Array.toList_extract]; simp
  have hli : Lib.lastIndexByte (s.extract 0 m) 10 = Lib.lastIdx s 10 m := by
    unfold Lib.lastIndexByte
    rw [hps, lastIdx_take s m hm m (Nat.le_refl _)]
  have hc := Try.strings_Count_one (s.extract 0 m) 10
  have hl := Try.strings_LastIndexByte (s.extract 0 m) 10 (by rw [hps]; omega)
  rw [hct] at hc
  rw [hli] at hl
  have hx1 := newl_le s m
  have hy1 := lastIdx_lt s m
  generalize newl s m = x at HF hc hx1
  generalize Lib.lastIdx s 10 m = y at HF hl hy1
  obtain ⟨hya, hyb⟩ := hy1
  have HC := hid hc
  have HL := hid hl
  clear hc hl hct hli hps
  go_enter Try.func8, Try.ntmps8
  go_wp2_with fail
  refine (HC.out _).mono ?_
  rintro e w2 ⟨rfl, rfl⟩
  go_wp2_with fail
  refine (HL.out _).mono ?_
  rintro e w2 ⟨rfl, rfl⟩
  go_wp2_with fail
  go_ret2
  exact ⟨by rw [HF.out]; rfl, rfl⟩
end Go.Proofs.Ytlbebnmhldolnaa
