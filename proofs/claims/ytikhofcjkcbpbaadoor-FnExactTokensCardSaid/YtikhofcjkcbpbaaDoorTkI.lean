/- Tokens: walks of the program's tokenEnd. No condition. -/
import Derived.Test.YtikhofcjkcbpbaaDoorTkN
import Derived.Test.YtikhofcjkcbpbaaDoorRvI
namespace Go.Proofs.YtikhofcjkcbpbaaDoor
open Go.ChangeShapes Go.WideShapes Go.ChangeAt Go.RowKit
set_option linter.unusedVariables false

theorem impl_isPlain (s : ByteArray) (hs : s.size ≤ 1048576) (w : World) (hp : Pow w) (he : Errs w) :
    Calls Tryd.prog 59 #[.string s] w fun e w' => e = .returned (.bool (plainB s)) ∧ Below w.heap.size w w' := by
  have HC := hid (impl_ReadDecimal s hs w hp he)
  clear hp he
  cases ho : readDec s.data.toList with
  | none =>
    have HV := hid (show plainB s = false by unfold plainB; rw [ho])
    rw [ho] at HC
    go_enter Tryd.func59, Tryd.ntmps59
    go_wp2_with fail
    refine HC.out.mono ?_
    rintro e w1 ⟨rfl, hb⟩
    have HB := hid hb
    clear hb
    go_wp2_with fail
    go_ret
    exact ⟨ret_bool HV.out.symm, HB.out⟩
  | some v =>
    have HV := hid (show plainB s = decide (0 ≤ v) by unfold plainB; rw [ho])
    rw [ho] at HC
    clear ho
    go_enter Tryd.func59, Tryd.ntmps59
    go_wp2_with fail
    refine HC.out.mono ?_
    rintro e w1 ⟨rfl, hb⟩
    have HB := hid hb
    clear hb
    go_wp2_with fail
    go_ret
    exact ⟨ret_bool HV.out.symm, HB.out⟩
theorem drop_extract (t : ByteArray) (i : Nat) : (t.extract i t.size).data.toList = t.data.toList.drop i := by
  have : t.data.toList.length = t.size := rfl
  simp only [ByteArray.data_extract, Array.toList_extract, List.extract_eq_take_drop]
  rw [List.take_of_length_le]
  simp only [List.length_drop]
  omega
theorem byteAt_drop {t : ByteArray} {i : Nat} {c : UInt8} {r : List UInt8} (h : t.data.toList.drop i = c :: r) : byteAt t i = (c.toNat : Int) ∧ i < t.size ∧ t.data.toList.drop (i + 1) = r := by
  have hl : t.data.toList.length = t.size := rfl
  have h1 : t.data.toList[i]? = some c := by
    have := List.getElem?_drop (xs := t.data.toList) (i := i) (j := 0)
    rw [h] at this
    simpa using this.symm
  refine ⟨?_, ?_, ?_⟩
  · unfold byteAt
    rw [← Array.getElem?_toList, h1]; rfl
  · have := (List.getElem?_eq_some_iff.1 h1).1; omega
  · rw [← List.drop_drop, h]; rfl
theorem pre_is (t : ByteArray) (i : Nat) : Lib.hasPrefix (t.extract i t.size).data.toList [45, 62] = decide (i < t.size ∧ byteAt t i = 45 ∧ i + 1 < t.size ∧ byteAt t (i + 1) = 62) := by
  rw [drop_extract]
  unfold Lib.hasPrefix
  have hl : t.data.toList.length = t.size := rfl
  cases h : t.data.toList.drop i with
  | nil =>
    have h1 : ¬ i < t.size := by
      have := congrArg List.length h
      rw [List.length_drop] at this
      simp at this; omega
    rw [decide_eq_false (fun x => h1 x.1)]; rfl
  | cons a r =>
    obtain ⟨h1, h2, h3⟩ := byteAt_drop h
    cases hr : r with
    | nil =>
      have h4 : ¬ i + 1 < t.size := by
        have := congrArg List.length h3
        rw [List.length_drop, hr] at this
        simp at this; omega
      rw [decide_eq_false (fun x => h4 x.2.2.1)]
      simp [List.isPrefixOf]
    | cons b q =>
      rw [hr] at h3
      obtain ⟨h4, h5, -⟩ := byteAt_drop h3
      rw [h1, h4]
      have ha : (45 == a) = decide ((a.toNat : Int) = 45) := by
        by_cases e : a = 45
        · subst e; rfl
        · have : ¬ (a.toNat : Int) = 45 := fun x => e (UInt8.toNat_inj.1 (by have : (45 : UInt8).toNat = 45 := rfl; omega))
          rw [decide_eq_false this]; simpa using fun x => e x.symm
      have hb : (62 == b) = decide ((b.toNat : Int) = 62) := by
        by_cases e : b = 62
        · subst e; rfl
        · have : ¬ (b.toNat : Int) = 62 := fun x => e (UInt8.toNat_inj.1 (by have : (62 : UInt8).toNat = 62 := rfl; omega))
          rw [decide_eq_false this]; simpa using fun x => e x.symm
      simp only [List.isPrefixOf, Bool.and_true, ha, hb, h2, h5, true_and]
      by_cases x1 : (a.toNat : Int) = 45 <;> by_cases x2 : (b.toNat : Int) = 62 <;> simp [x1, x2]
def TkEnd (w : World) (p : Int × Nat) (e : Ending) (w' : World) : Prop := e = .returned (.tuple #[.int .i64 p.1, .int .i64 (p.2 : Int)]) ∧ Below w.heap.size w w'
theorem tkEnd_is {w w' : World} {p : Int × Nat} {a : Int} {b : Nat} (h : p = (a, b)) (hb : Below w.heap.size w w') : TkEnd w p (.returned (.tuple #[.int .i64 a, .int .i64 (b : Int)])) w' := by subst h; exact ⟨rfl, hb⟩
set_option maxRecDepth 100000 in
set_option maxHeartbeats 1000000 in
theorem impl_tokenEnd (t : ByteArray) (i : Nat) (hi : i < t.size) (hs : t.size ≤ 1048576) (w : World) (hp : Pow w) (he : Errs w) :
    Calls Tryd.prog 38 #[.string t, .int .i64 i] w (TkEnd w (tkAt t i)) := by
  have HBI := hid (byteAt_eq hi)
  by_cases hw : wordB (byteAt t i) = true
  case neg =>
    have hwf : wordB (t[i].toNat : Int) = false := by rw [← HBI.out]; simpa using hw
    have HPF := hid (fun W => Tryd.strings_HasPrefix (t.extract i t.size) ⟨#[45, 62]⟩ W)
    by_cases hpre : byteAt t i = 45 ∧ i + 1 < t.size ∧ byteAt t (i + 1) = 62
    case pos =>
      have HT := hid (show tkAt t i = (5, i + 2) by unfold tkAt; rw [if_neg hw, if_pos hpre])
      have hv : Lib.hasPrefix (t.extract i t.size).data.toList (⟨#[45, 62]⟩ : ByteArray).data.toList = true := by
        rw [show (⟨#[45, 62]⟩ : ByteArray).data.toList = [45, 62] from rfl, pre_is, decide_eq_true ⟨hi, hpre⟩]
      simp only [hv] at HPF
      clear hpre hw hv hp he
      go_enter Tryd.func38, Tryd.ntmps38
      go_wp2_with fail
      go_loop [6] (fun v => v = .int .i64 i) (fun _ => 0)
      case atStart => rfl
      case round =>
        obtain rfl := hrel
        go_wp2_with (first | (go_at_call 55; refine (impl_isWordByte _ _).mono ?_; rintro e w' ⟨rfl, rfl⟩))
        refine (HPF.out _).mono ?_
        rintro e w1 ⟨rfl, rfl⟩
        go_wp2_with fail
        go_ret2
        exact tkEnd_is HT.out (Below.refl _ _)
    case neg =>
      have hv : Lib.hasPrefix (t.extract i t.size).data.toList (⟨#[45, 62]⟩ : ByteArray).data.toList = false := by
        rw [show (⟨#[45, 62]⟩ : ByteArray).data.toList = [45, 62] from rfl, pre_is, decide_eq_false fun h => hpre h.2]
      simp only [hv] at HPF
      have HIX := hid (fun W => Tryd.strings_IndexByte symS (t[i].toNat : Int) W)
      have hx : decide (0 ≤ Lib.indexByte symS.data.toList ((t[i].toNat : Int)).toNat.toUInt8) = inL symL (byteAt t i) := by
        rw [toU8, HBI.out]; exact idx_inL symL t[i]
      cases hs2 : inL symL (byteAt t i)
      case false =>
        have HT := hid (show tkAt t i = (0, i) by unfold tkAt; rw [if_neg hw, if_neg hpre, hs2]; rfl)
        rw [hs2] at hx
        generalize Lib.indexByte symS.data.toList ((t[i].toNat : Int)).toNat.toUInt8 = ix at HIX hx
        clear hpre hw hv hp he hs2
        go_enter Tryd.func38, Tryd.ntmps38
        go_wp2_with fail
        go_loop [6] (fun v => v = .int .i64 i) (fun _ => 0)
        case atStart => rfl
        case round =>
          obtain rfl := hrel
          go_wp2_with (first | (go_at_call 55; refine (impl_isWordByte _ _).mono ?_; rintro e w' ⟨rfl, rfl⟩))
          refine (HPF.out _).mono ?_
          rintro e w1 ⟨rfl, rfl⟩
          go_wp2_with fail
          refine (HIX.out _).mono ?_
          rintro e w1 ⟨rfl, rfl⟩
          go_wp2_with fail
          go_ret2
          exact tkEnd_is HT.out (Below.refl _ _)
      case true =>
        have HT := hid (show tkAt t i = (5, i + 1) by unfold tkAt; rw [if_neg hw, if_neg hpre, hs2]; rfl)
        rw [hs2] at hx
        generalize Lib.indexByte symS.data.toList ((t[i].toNat : Int)).toNat.toUInt8 = ix at HIX hx
        clear hpre hw hv hp he hs2
        go_enter Tryd.func38, Tryd.ntmps38
        go_wp2_with fail
        go_loop [6] (fun v => v = .int .i64 i) (fun _ => 0)
        case atStart => rfl
        case round =>
          obtain rfl := hrel
          go_wp2_with (first | (go_at_call 55; refine (impl_isWordByte _ _).mono ?_; rintro e w' ⟨rfl, rfl⟩))
          refine (HPF.out _).mono ?_
          rintro e w1 ⟨rfl, rfl⟩
          go_wp2_with fail
          refine (HIX.out _).mono ?_
          rintro e w1 ⟨rfl, rfl⟩
          go_wp2_with fail
          go_ret2
          exact tkEnd_is HT.out (Below.refl _ _)
  case pos =>
    have HLT := hid (wEnd_lt hi hw)
    have HW := hid hw
    have HP := hid hp
    have HER := hid he
    clear hw hp he HBI
    go_enter Tryd.func38, Tryd.ntmps38
    go_wp2_with fail
    go_loop [6] (fun v => ∃ k : Nat, i ≤ k ∧ k ≤ t.size ∧ v = .int .i64 k ∧ Hid (∀ j, i ≤ j → j < k → wordB (byteAt t j) = true)) (fun v => t.size - (intOf v).toNat)
    case atStart => exact ⟨i, Nat.le_refl _, by omega, rfl, fun j h1 h2 => absurd h2 (by omega)⟩
    case round =>
      obtain ⟨k, hik0, hk, rfl, HWS⟩ := hrel
      by_cases hlt : k < t.size
      case neg =>
        have HE := hid (show wEnd t i = k from wEnd_is hik0 hk HWS.out (Or.inl (by omega)))
        have hik : i < k := by rw [← HE.out]; exact HLT.out
        have gk : decide ((i : Int) < (k : Int)) = true := decide_eq_true (by omega)
        have HT0 := hid (show tkAt t i = if tkKind (t.extract i k) = 0 then (0, i) else (tkKind (t.extract i k), k) by unfold tkAt; rw [if_pos HW.out, HE.out])
        have hse : (t.extract i k).size = k - i := by rw [ByteArray.size_extract]; omega
        have hk1 := fun W => impl_IsKeyword (t.extract i k) W
        have hl1 := fun W => impl_IsLower (t.extract i k) W
        have hu1 := fun W => impl_IsUpper (t.extract i k) W
        have hn1 := fun W (hb : Below w.heap.size w W) => impl_isPlain (t.extract i k) (by omega) W (HP.out.below hb) (HER.out.below hb)
        have HNS := hid (num_same (s := t.extract i k) (by omega))
        clear hse
        cases c1 : isKw (t.extract i k)
        case true =>
          rw [c1] at hk1
          have HK := hid hk1
          clear hk1 hl1 hu1 hn1
          have HT := hid (show tkAt t i = (3, k) by rw [HT0.out]; unfold tkKind; simp [c1])
          clear c1
          go_wp2_with (first
              | (go_at_call 56; refine (HK.out _).mono ?_; rintro e w1 ⟨rfl, hb1⟩))
          go_ret2
          exact tkEnd_is HT.out (hb1)
        case false =>
        rw [c1] at hk1
        have HK := hid hk1
        clear hk1
        cases c2 : isLowerB (t.extract i k)
        case true =>
          rw [c2] at hl1
          have HL := hid hl1
          clear hl1 hu1 hn1
          have HT := hid (show tkAt t i = (1, k) by rw [HT0.out]; unfold tkKind; simp [c1, c2])
          clear c1 c2
          go_wp2_with (first
              | (go_at_call 56; refine (HK.out _).mono ?_; rintro e w1 ⟨rfl, hb1⟩)
              | (go_at_call 57; refine (HL.out _).mono ?_; rintro e w2 ⟨rfl, hb2⟩))
          go_ret2
          exact tkEnd_is HT.out (hb1.trans (hb2.mono hb1.size))
        case false =>
        rw [c2] at hl1
        have HL := hid hl1
        clear hl1
        cases c3 : isUpperB (t.extract i k)
        case true =>
          rw [c3] at hu1
          have HU := hid hu1
          clear hu1 hn1
          have HT := hid (show tkAt t i = (2, k) by rw [HT0.out]; unfold tkKind; simp [c1, c2, c3])
          clear c1 c2 c3
          go_wp2_with (first
              | (go_at_call 56; refine (HK.out _).mono ?_; rintro e w1 ⟨rfl, hb1⟩)
              | (go_at_call 57; refine (HL.out _).mono ?_; rintro e w2 ⟨rfl, hb2⟩)
              | (go_at_call 58; refine (HU.out _).mono ?_; rintro e w3 ⟨rfl, hb3⟩))
          go_ret2
          exact tkEnd_is HT.out (hb1.trans ((hb2.trans (hb3.mono hb2.size)).mono hb1.size))
        case false =>
        rw [c3] at hu1
        have HU := hid hu1
        clear hu1
        by_cases c5 : t.extract i k = big31
        case pos =>
          have c4 : numB (t.extract i k) = true := by rw [← HNS.out, decide_eq_true c5]; rfl
          have g6 : (t.extract i k).toList = [50, 49, 52, 55, 52, 56, 51, 54, 52, 56] := by rw [c5, ByteArray.toList_eq]; rfl
          have g5 : ((t.extract i k).toList == ([50, 49, 52, 55, 52, 56, 51, 54, 52, 56] : List UInt8)) = true := by rw [g6]; rfl
          clear hn1 c5
          have HT := hid (show tkAt t i = (4, k) by rw [HT0.out]; unfold tkKind; simp [c1, c2, c3, c4])
          clear c1 c2 c3 c4
          go_wp2_with (first
              | (go_at_call 56; refine (HK.out _).mono ?_; rintro e w1 ⟨rfl, hb1⟩)
              | (go_at_call 57; refine (HL.out _).mono ?_; rintro e w2 ⟨rfl, hb2⟩)
              | (go_at_call 58; refine (HU.out _).mono ?_; rintro e w3 ⟨rfl, hb3⟩))
          go_ret2
          exact tkEnd_is HT.out (hb1.trans ((hb2.trans (hb3.mono hb2.size)).mono hb1.size))
        case neg =>
        have g6 : ¬ (t.extract i k).toList = [50, 49, 52, 55, 52, 56, 51, 54, 52, 56] := by
          rw [ByteArray.toList_eq]
          exact fun e => c5 (WideShapes.bytes_inj e)
        have g5 : ((t.extract i k).toList == ([50, 49, 52, 55, 52, 56, 51, 54, 52, 56] : List UInt8)) = false := by simpa using g6
        have hpn : plainB (t.extract i k) = numB (t.extract i k) := by rw [← HNS.out, decide_eq_false c5]; rfl
        rw [hpn] at hn1
        clear hpn c5
        cases c4 : numB (t.extract i k)
        case true =>
          rw [c4] at hn1
          have HN := hid hn1
          clear hn1
          have HT := hid (show tkAt t i = (4, k) by rw [HT0.out]; unfold tkKind; simp [c1, c2, c3, c4])
          clear c1 c2 c3 c4
          go_wp2_with (first
              | (go_at_call 56; refine (HK.out _).mono ?_; rintro e w1 ⟨rfl, hb1⟩)
              | (go_at_call 57; refine (HL.out _).mono ?_; rintro e w2 ⟨rfl, hb2⟩)
              | (go_at_call 58; refine (HU.out _).mono ?_; rintro e w3 ⟨rfl, hb3⟩)
              | (go_at_call 59; refine (HN.out _ (hb1.trans ((hb2.trans (hb3.mono hb2.size)).mono hb1.size))).mono ?_; rintro e w4 ⟨rfl, hb4⟩))
          go_ret2
          exact tkEnd_is HT.out ((hb1.trans ((hb2.trans (hb3.mono hb2.size)).mono hb1.size)).trans (hb4.mono (hb1.trans ((hb2.trans (hb3.mono hb2.size)).mono hb1.size)).size))
        case false =>
        rw [c4] at hn1
        have HN := hid hn1
        clear hn1
        have HT := hid (show tkAt t i = (0, i) by rw [HT0.out]; unfold tkKind; simp [c1, c2, c3, c4])
        clear c1 c2 c3 c4
        go_wp2_with (first
            | (go_at_call 56; refine (HK.out _).mono ?_; rintro e w1 ⟨rfl, hb1⟩)
            | (go_at_call 57; refine (HL.out _).mono ?_; rintro e w2 ⟨rfl, hb2⟩)
            | (go_at_call 58; refine (HU.out _).mono ?_; rintro e w3 ⟨rfl, hb3⟩)
            | (go_at_call 59; refine (HN.out _ (hb1.trans ((hb2.trans (hb3.mono hb2.size)).mono hb1.size))).mono ?_; rintro e w4 ⟨rfl, hb4⟩))
        go_ret2
        exact tkEnd_is HT.out ((hb1.trans ((hb2.trans (hb3.mono hb2.size)).mono hb1.size)).trans (hb4.mono (hb1.trans ((hb2.trans (hb3.mono hb2.size)).mono hb1.size)).size))
      case pos =>
        have HBK := hid (byteAt_eq hlt)
        cases hwk : wordB (t[k].toNat : Int)
        case true =>
          have HWK := hid hwk
          go_wp2_with (first | (go_at_call 55; refine (impl_isWordByte _ _).mono ?_; rintro e w' ⟨rfl, rfl⟩))
          go_round
          case rel =>
            refine ⟨k + 1, by omega, by omega, by go_num, fun j h1 hj => ?_⟩
            rcases Nat.lt_succ_iff_lt_or_eq.1 hj with hj' | rfl
            · exact HWS.out j h1 hj'
            · rw [HBK.out]; exact HWK.out
          case measure => simp [intOf]; omega
        case false =>
          have HE := hid (show wEnd t i = k from wEnd_is hik0 hk HWS.out (Or.inr (by rw [HBK.out, hwk])))
          have hik : i < k := by rw [← HE.out]; exact HLT.out
          have gk : decide ((i : Int) < (k : Int)) = true := decide_eq_true (by omega)
          have HT0 := hid (show tkAt t i = if tkKind (t.extract i k) = 0 then (0, i) else (tkKind (t.extract i k), k) by unfold tkAt; rw [if_pos HW.out, HE.out])
          have hse : (t.extract i k).size = k - i := by rw [ByteArray.size_extract]; omega
          have hk1 := fun W => impl_IsKeyword (t.extract i k) W
          have hl1 := fun W => impl_IsLower (t.extract i k) W
          have hu1 := fun W => impl_IsUpper (t.extract i k) W
          have hn1 := fun W (hb : Below w.heap.size w W) => impl_isPlain (t.extract i k) (by omega) W (HP.out.below hb) (HER.out.below hb)
          have HNS := hid (num_same (s := t.extract i k) (by omega))
          clear hse
          cases c1 : isKw (t.extract i k)
          case true =>
            rw [c1] at hk1
            have HK := hid hk1
            clear hk1 hl1 hu1 hn1
            have HT := hid (show tkAt t i = (3, k) by rw [HT0.out]; unfold tkKind; simp [c1])
            clear c1
            go_wp2_with (first
                | (go_at_call 55; refine (impl_isWordByte _ _).mono ?_; rintro e w' ⟨rfl, rfl⟩)
                | (go_at_call 56; refine (HK.out _).mono ?_; rintro e w1 ⟨rfl, hb1⟩))
            go_ret2
            exact tkEnd_is HT.out (hb1)
          case false =>
          rw [c1] at hk1
          have HK := hid hk1
          clear hk1
          cases c2 : isLowerB (t.extract i k)
          case true =>
            rw [c2] at hl1
            have HL := hid hl1
            clear hl1 hu1 hn1
            have HT := hid (show tkAt t i = (1, k) by rw [HT0.out]; unfold tkKind; simp [c1, c2])
            clear c1 c2
            go_wp2_with (first
                | (go_at_call 55; refine (impl_isWordByte _ _).mono ?_; rintro e w' ⟨rfl, rfl⟩)
                | (go_at_call 56; refine (HK.out _).mono ?_; rintro e w1 ⟨rfl, hb1⟩)
                | (go_at_call 57; refine (HL.out _).mono ?_; rintro e w2 ⟨rfl, hb2⟩))
            go_ret2
            exact tkEnd_is HT.out (hb1.trans (hb2.mono hb1.size))
          case false =>
          rw [c2] at hl1
          have HL := hid hl1
          clear hl1
          cases c3 : isUpperB (t.extract i k)
          case true =>
            rw [c3] at hu1
            have HU := hid hu1
            clear hu1 hn1
            have HT := hid (show tkAt t i = (2, k) by rw [HT0.out]; unfold tkKind; simp [c1, c2, c3])
            clear c1 c2 c3
            go_wp2_with (first
                | (go_at_call 55; refine (impl_isWordByte _ _).mono ?_; rintro e w' ⟨rfl, rfl⟩)
                | (go_at_call 56; refine (HK.out _).mono ?_; rintro e w1 ⟨rfl, hb1⟩)
                | (go_at_call 57; refine (HL.out _).mono ?_; rintro e w2 ⟨rfl, hb2⟩)
                | (go_at_call 58; refine (HU.out _).mono ?_; rintro e w3 ⟨rfl, hb3⟩))
            go_ret2
            exact tkEnd_is HT.out (hb1.trans ((hb2.trans (hb3.mono hb2.size)).mono hb1.size))
          case false =>
          rw [c3] at hu1
          have HU := hid hu1
          clear hu1
          by_cases c5 : t.extract i k = big31
          case pos =>
            have c4 : numB (t.extract i k) = true := by rw [← HNS.out, decide_eq_true c5]; rfl
            have g6 : (t.extract i k).toList = [50, 49, 52, 55, 52, 56, 51, 54, 52, 56] := by rw [c5, ByteArray.toList_eq]; rfl
            have g5 : ((t.extract i k).toList == ([50, 49, 52, 55, 52, 56, 51, 54, 52, 56] : List UInt8)) = true := by rw [g6]; rfl
            clear hn1 c5
            have HT := hid (show tkAt t i = (4, k) by rw [HT0.out]; unfold tkKind; simp [c1, c2, c3, c4])
            clear c1 c2 c3 c4
            go_wp2_with (first
                | (go_at_call 55; refine (impl_isWordByte _ _).mono ?_; rintro e w' ⟨rfl, rfl⟩)
                | (go_at_call 56; refine (HK.out _).mono ?_; rintro e w1 ⟨rfl, hb1⟩)
                | (go_at_call 57; refine (HL.out _).mono ?_; rintro e w2 ⟨rfl, hb2⟩)
                | (go_at_call 58; refine (HU.out _).mono ?_; rintro e w3 ⟨rfl, hb3⟩))
            go_ret2
            exact tkEnd_is HT.out (hb1.trans ((hb2.trans (hb3.mono hb2.size)).mono hb1.size))
          case neg =>
          have g6 : ¬ (t.extract i k).toList = [50, 49, 52, 55, 52, 56, 51, 54, 52, 56] := by
            rw [ByteArray.toList_eq]
            exact fun e => c5 (WideShapes.bytes_inj e)
          have g5 : ((t.extract i k).toList == ([50, 49, 52, 55, 52, 56, 51, 54, 52, 56] : List UInt8)) = false := by simpa using g6
          have hpn : plainB (t.extract i k) = numB (t.extract i k) := by rw [← HNS.out, decide_eq_false c5]; rfl
          rw [hpn] at hn1
          clear hpn c5
          cases c4 : numB (t.extract i k)
          case true =>
            rw [c4] at hn1
            have HN := hid hn1
            clear hn1
            have HT := hid (show tkAt t i = (4, k) by rw [HT0.out]; unfold tkKind; simp [c1, c2, c3, c4])
            clear c1 c2 c3 c4
            go_wp2_with (first
                | (go_at_call 55; refine (impl_isWordByte _ _).mono ?_; rintro e w' ⟨rfl, rfl⟩)
                | (go_at_call 56; refine (HK.out _).mono ?_; rintro e w1 ⟨rfl, hb1⟩)
                | (go_at_call 57; refine (HL.out _).mono ?_; rintro e w2 ⟨rfl, hb2⟩)
                | (go_at_call 58; refine (HU.out _).mono ?_; rintro e w3 ⟨rfl, hb3⟩)
                | (go_at_call 59; refine (HN.out _ (hb1.trans ((hb2.trans (hb3.mono hb2.size)).mono hb1.size))).mono ?_; rintro e w4 ⟨rfl, hb4⟩))
            go_ret2
            exact tkEnd_is HT.out ((hb1.trans ((hb2.trans (hb3.mono hb2.size)).mono hb1.size)).trans (hb4.mono (hb1.trans ((hb2.trans (hb3.mono hb2.size)).mono hb1.size)).size))
          case false =>
          rw [c4] at hn1
          have HN := hid hn1
          clear hn1
          have HT := hid (show tkAt t i = (0, i) by rw [HT0.out]; unfold tkKind; simp [c1, c2, c3, c4])
          clear c1 c2 c3 c4
          go_wp2_with (first
              | (go_at_call 55; refine (impl_isWordByte _ _).mono ?_; rintro e w' ⟨rfl, rfl⟩)
              | (go_at_call 56; refine (HK.out _).mono ?_; rintro e w1 ⟨rfl, hb1⟩)
              | (go_at_call 57; refine (HL.out _).mono ?_; rintro e w2 ⟨rfl, hb2⟩)
              | (go_at_call 58; refine (HU.out _).mono ?_; rintro e w3 ⟨rfl, hb3⟩)
              | (go_at_call 59; refine (HN.out _ (hb1.trans ((hb2.trans (hb3.mono hb2.size)).mono hb1.size))).mono ?_; rintro e w4 ⟨rfl, hb4⟩))
          go_ret2
          exact tkEnd_is HT.out ((hb1.trans ((hb2.trans (hb3.mono hb2.size)).mono hb1.size)).trans (hb4.mono (hb1.trans ((hb2.trans (hb3.mono hb2.size)).mono hb1.size)).size))
end Go.Proofs.YtikhofcjkcbpbaaDoor
