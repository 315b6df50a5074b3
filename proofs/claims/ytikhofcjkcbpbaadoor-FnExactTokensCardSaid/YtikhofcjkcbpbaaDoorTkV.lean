/- Tokens: walks of l04Token in the reference. No condition. -/
import Derived.Test.YtikhofcjkcbpbaaDoorTkU
import Derived.Test.YtikhofcjkcbpbaaDoorRow
namespace Go.Proofs.YtikhofcjkcbpbaaDoor
open Go.ChangeShapes Go.WideShapes Go.ChangeAt Go.RowKit
set_option linter.unusedVariables false

def GivesTok (t : ByteArray) (i : Nat) (w : World) (e : Ending) (w' : World) : Prop :=
  ∃ (n : ByteArray) (p : Int), e = .returned (.agg #[.int .i64 (tkAt t i).1, .string n, .int .i64 p]) ∧ ((tkAt t i).1 ≠ 0 → n = t.extract i (tkAt t i).2 ∧ p = (i : Int)) ∧ Below w.heap.size w w'
theorem GivesTok.mk' {t : ByteArray} {i : Nat} {w w' : World} {k : Int} {e0 : Nat} {n : ByteArray} (h : tkAt t i = (k, e0)) (hn : n = t.extract i e0) (hb : Below w.heap.size w w') : GivesTok t i w (.returned (.agg #[.int .i64 k, .string n, .int .i64 (i : Int)])) w' := by
  unfold GivesTok
  rw [h]
  exact ⟨n, i, rfl, fun _ => ⟨hn, rfl⟩, hb⟩
theorem GivesTok.no {t : ByteArray} {i : Nat} {w w' : World} {e0 : Nat} {n : ByteArray} {p : Int} (h : tkAt t i = (0, e0)) (hb : Below w.heap.size w w') : GivesTok t i w (.returned (.agg #[.int .i64 0, .string n, .int .i64 p])) w' := by
  unfold GivesTok
  rw [h]
  exact ⟨n, p, rfl, fun x => absurd rfl x, hb⟩
theorem arrow_is {t : ByteArray} {i : Nat} (h1 : byteAt t i = 45) (hi : i + 1 < t.size) (h2 : byteAt t (i + 1) = 62) : (⟨#[45, 62]⟩ : ByteArray) = t.extract i (i + 2) := by
  apply WideShapes.bytes_inj
  have hl : t.data.toList.length = t.size := rfl
  simp only [ByteArray.data_extract, Array.toList_extract, List.extract_eq_take_drop]
  have e1 : t.data.toList[i]? = some 45 := by
    have : i < t.data.toList.length := by omega
    rw [List.getElem?_eq_getElem this]
    unfold byteAt at h1
    rw [← Array.getElem?_toList, List.getElem?_eq_getElem this] at h1
    simp only [Option.getD_some] at h1
    exact congrArg some (UInt8.toNat_inj.1 (by have : (45 : UInt8).toNat = 45 := rfl; omega))
  have e2 : t.data.toList[i + 1]? = some 62 := by
    have : i + 1 < t.data.toList.length := by omega
    rw [List.getElem?_eq_getElem this]
    unfold byteAt at h2
    rw [← Array.getElem?_toList, List.getElem?_eq_getElem this] at h2
    simp only [Option.getD_some] at h2
    exact congrArg some (UInt8.toNat_inj.1 (by have : (62 : UInt8).toNat = 62 := rfl; omega))
  obtain ⟨h3, e3⟩ := List.getElem?_eq_some_iff.1 e1
  obtain ⟨h4, e4⟩ := List.getElem?_eq_some_iff.1 e2
  rw [show i + 2 - i = 2 by omega, List.drop_eq_getElem_cons h3, List.drop_eq_getElem_cons h4, e3, e4]
  rfl
set_option maxRecDepth 100000 in
set_option maxHeartbeats 2000000 in
theorem spec_Token_sym (t : ByteArray) (i : Nat) (hi : i < t.size) (hs : t.size ≤ 1048576) (hw : wordB (byteAt t i) = false) (w : World) :
    Calls Tryd.prog 53 #[.string t, .int .i64 i] w (GivesTok t i w) := by
  have HBI := hid (byteAt_eq hi)
  have hla : letB (t[i].toNat : Int) = false ∧ digB (t[i].toNat : Int) = false := by
    rw [HBI.out, word_or, Bool.or_eq_false_iff] at hw; exact hw
  obtain ⟨hl, hd⟩ := hla
  have HH := hid (heap_alloc_new w (.cells #[.int .i64 0, .string ⟨#[]⟩, .int .i64 0] 68))
  have HB := hid ((Below.refl w.heap.size w).alloc (Nat.le_refl _) (.cells #[.int .i64 0, .string ⟨#[]⟩, .int .i64 0] 68))
  have z0 := heap_free HH.out 0
  have z1 := heap_free HH.out 1
  have z2 := heap_free HH.out 2
  have r0 := heap_cell HH.out (j := 0) rfl
  have r1 := heap_cell HH.out (j := 1) rfl
  have r2 := heap_cell HH.out (j := 2) rfl
  by_cases hpre : byteAt t i = 45 ∧ i + 1 < t.size ∧ byteAt t (i + 1) = 62
  case pos =>
    obtain ⟨p1, p2, p3⟩ := hpre
    have HT := hid (show tkAt t i = (5, i + 2) by unfold tkAt; rw [if_neg (by rw [hw]; decide), if_pos ⟨p1, p2, p3⟩])
    have HAR := hid (arrow_is p1 p2 p3)
    have hb2 := byteAt_eq p2
    have g1 : ((t[i].toNat : Int) == 45) = true := by rw [← HBI.out, p1]; rfl
    have g2 : ((t[i + 1].toNat : Int) == 62) = true := by rw [← hb2, p3]; rfl
    have HS := hid (heap_alloc_new w (.cells #[.int .i64 5, .string ⟨#[45, 62]⟩, .int .i64 i] 68))
    have HB2 := hid ((Below.refl w.heap.size w).alloc (Nat.le_refl _) (.cells #[.int .i64 5, .string ⟨#[45, 62]⟩, .int .i64 i] 68))
    clear p1 p3 hb2 hw
    go_enter Tryd.func53, Tryd.ntmps53
    go_wp2_with (first
      | (go_at_call 79; refine (spec_Letter _ _).mono ?_; rintro e w' ⟨rfl, rfl⟩)
      | (go_at_call 22; refine (spec_Digit _ _).mono ?_; rintro e w' ⟨rfl, rfl⟩)
      | (go_at_call 85; refine (spec_Symbol _ _).mono ?_; rintro e w' ⟨rfl, rfl⟩))
    have hc0 := heap_cell HS.out (j := 0) rfl
    have hc1 := heap_cell HS.out (j := 1) rfl
    have hc2 := heap_cell HS.out (j := 2) rfl
    refine bodyPost_ret (v := .agg #[.int .i64 5, .string ⟨#[45, 62]⟩, .int .i64 i]) (by simp [results, Tryd.results53, go_sem, hc0, hc1, hc2]) rfl ?_
    exact GivesTok.mk' HT.out HAR.out HB2.out
  case neg =>
    have hT0 : tkAt t i = if inL symL (byteAt t i) = true then (5, i + 1) else (0, i) := by unfold tkAt; rw [if_neg (by rw [hw]; decide), if_neg hpre]
    rw [HBI.out] at hT0
    by_cases p1 : (t[i].toNat : Int) = 45
    case pos =>
      have g1 : ((t[i].toNat : Int) == 45) = true := by rw [p1]; rfl
      by_cases p2 : i + 1 < t.size
      case pos =>
        have hb2 := byteAt_eq p2
        have p3 : ¬ (t[i + 1].toNat : Int) = 62 := fun x => hpre ⟨by rw [HBI.out]; exact p1, p2, by rw [hb2]; exact x⟩
        have g2 : ((t[i + 1].toNat : Int) == 62) = false := by simpa using p3
        clear p1 p3 hb2 hpre hw
        cases hsy : inL symL (t[i].toNat : Int)
        case true =>
          have HT := hid (show tkAt t i = (5, i + 1) by rw [hT0, hsy]; rfl)
          have HS := hid (heap_alloc_new w (.cells #[.int .i64 5, .string (t.extract i (i + 1)), .int .i64 i] 68))
          have HB2 := hid ((Below.refl w.heap.size w).alloc (Nat.le_refl _) (.cells #[.int .i64 5, .string (t.extract i (i + 1)), .int .i64 i] 68))
          clear hT0
          have k1 : (i : Int) + 1 ≤ (t.size : Int) := by omega
          have k2 : (0 : Int) ≤ (i : Int) + 1 := by omega
          have k3 : (i : Int) ≤ (i : Int) + 1 := by omega
          have k4 : ((i : Int) + 1).toNat = i + 1 := by omega
          go_enter Tryd.func53, Tryd.ntmps53
          go_wp2_with (first
            | (go_at_call 79; refine (spec_Letter _ _).mono ?_; rintro e w' ⟨rfl, rfl⟩)
            | (go_at_call 22; refine (spec_Digit _ _).mono ?_; rintro e w' ⟨rfl, rfl⟩)
            | (go_at_call 85; refine (spec_Symbol _ _).mono ?_; rintro e w' ⟨rfl, rfl⟩))
          have hc0 := heap_cell HS.out (j := 0) rfl
          have hc1 := heap_cell HS.out (j := 1) rfl
          have hc2 := heap_cell HS.out (j := 2) rfl
          refine bodyPost_ret (v := .agg #[.int .i64 5, .string (t.extract i (i + 1)), .int .i64 i]) (by simp [results, Tryd.results53, go_sem, hc0, hc1, hc2]) rfl ?_
          exact GivesTok.mk' HT.out rfl HB2.out
        case false =>
          have HT := hid (show tkAt t i = (0, i) by rw [hT0, hsy]; rfl)
          have HS := hid (heap_alloc_new w (.cells #[.int .i64 0, .string ⟨#[]⟩, .int .i64 0] 68))
          have HB2 := hid ((Below.refl w.heap.size w).alloc (Nat.le_refl _) (.cells #[.int .i64 0, .string ⟨#[]⟩, .int .i64 0] 68))
          clear hT0
          go_enter Tryd.func53, Tryd.ntmps53
          go_wp2_with (first
            | (go_at_call 79; refine (spec_Letter _ _).mono ?_; rintro e w' ⟨rfl, rfl⟩)
            | (go_at_call 22; refine (spec_Digit _ _).mono ?_; rintro e w' ⟨rfl, rfl⟩)
            | (go_at_call 85; refine (spec_Symbol _ _).mono ?_; rintro e w' ⟨rfl, rfl⟩))
          have hc0 := heap_cell HS.out (j := 0) rfl
          have hc1 := heap_cell HS.out (j := 1) rfl
          have hc2 := heap_cell HS.out (j := 2) rfl
          refine bodyPost_ret (v := .agg #[.int .i64 0, .string ⟨#[]⟩, .int .i64 0]) (by simp [results, Tryd.results53, go_sem, hc0, hc1, hc2]) rfl ?_
          exact GivesTok.no HT.out HB2.out
      case neg =>
        clear p1 hpre hw
        cases hsy : inL symL (t[i].toNat : Int)
        case true =>
          have HT := hid (show tkAt t i = (5, i + 1) by rw [hT0, hsy]; rfl)
          have HS := hid (heap_alloc_new w (.cells #[.int .i64 5, .string (t.extract i (i + 1)), .int .i64 i] 68))
          have HB2 := hid ((Below.refl w.heap.size w).alloc (Nat.le_refl _) (.cells #[.int .i64 5, .string (t.extract i (i + 1)), .int .i64 i] 68))
          clear hT0
          have k1 : (i : Int) + 1 ≤ (t.size : Int) := by omega
          have k2 : (0 : Int) ≤ (i : Int) + 1 := by omega
          have k3 : (i : Int) ≤ (i : Int) + 1 := by omega
          have k4 : ((i : Int) + 1).toNat = i + 1 := by omega
          go_enter Tryd.func53, Tryd.ntmps53
          go_wp2_with (first
            | (go_at_call 79; refine (spec_Letter _ _).mono ?_; rintro e w' ⟨rfl, rfl⟩)
            | (go_at_call 22; refine (spec_Digit _ _).mono ?_; rintro e w' ⟨rfl, rfl⟩)
            | (go_at_call 85; refine (spec_Symbol _ _).mono ?_; rintro e w' ⟨rfl, rfl⟩))
          have hc0 := heap_cell HS.out (j := 0) rfl
          have hc1 := heap_cell HS.out (j := 1) rfl
          have hc2 := heap_cell HS.out (j := 2) rfl
          refine bodyPost_ret (v := .agg #[.int .i64 5, .string (t.extract i (i + 1)), .int .i64 i]) (by simp [results, Tryd.results53, go_sem, hc0, hc1, hc2]) rfl ?_
          exact GivesTok.mk' HT.out rfl HB2.out
        case false =>
          have HT := hid (show tkAt t i = (0, i) by rw [hT0, hsy]; rfl)
          have HS := hid (heap_alloc_new w (.cells #[.int .i64 0, .string ⟨#[]⟩, .int .i64 0] 68))
          have HB2 := hid ((Below.refl w.heap.size w).alloc (Nat.le_refl _) (.cells #[.int .i64 0, .string ⟨#[]⟩, .int .i64 0] 68))
          clear hT0
          go_enter Tryd.func53, Tryd.ntmps53
          go_wp2_with (first
            | (go_at_call 79; refine (spec_Letter _ _).mono ?_; rintro e w' ⟨rfl, rfl⟩)
            | (go_at_call 22; refine (spec_Digit _ _).mono ?_; rintro e w' ⟨rfl, rfl⟩)
            | (go_at_call 85; refine (spec_Symbol _ _).mono ?_; rintro e w' ⟨rfl, rfl⟩))
          have hc0 := heap_cell HS.out (j := 0) rfl
          have hc1 := heap_cell HS.out (j := 1) rfl
          have hc2 := heap_cell HS.out (j := 2) rfl
          refine bodyPost_ret (v := .agg #[.int .i64 0, .string ⟨#[]⟩, .int .i64 0]) (by simp [results, Tryd.results53, go_sem, hc0, hc1, hc2]) rfl ?_
          exact GivesTok.no HT.out HB2.out
    case neg =>
      have g1 : ((t[i].toNat : Int) == 45) = false := by simpa using p1
      clear p1 hpre hw
      cases hsy : inL symL (t[i].toNat : Int)
      case true =>
        have HT := hid (show tkAt t i = (5, i + 1) by rw [hT0, hsy]; rfl)
        have HS := hid (heap_alloc_new w (.cells #[.int .i64 5, .string (t.extract i (i + 1)), .int .i64 i] 68))
        have HB2 := hid ((Below.refl w.heap.size w).alloc (Nat.le_refl _) (.cells #[.int .i64 5, .string (t.extract i (i + 1)), .int .i64 i] 68))
        clear hT0
        have k1 : (i : Int) + 1 ≤ (t.size : Int) := by omega
        have k2 : (0 : Int) ≤ (i : Int) + 1 := by omega
        have k3 : (i : Int) ≤ (i : Int) + 1 := by omega
        have k4 : ((i : Int) + 1).toNat = i + 1 := by omega
        go_enter Tryd.func53, Tryd.ntmps53
        go_wp2_with (first
          | (go_at_call 79; refine (spec_Letter _ _).mono ?_; rintro e w' ⟨rfl, rfl⟩)
          | (go_at_call 22; refine (spec_Digit _ _).mono ?_; rintro e w' ⟨rfl, rfl⟩)
          | (go_at_call 85; refine (spec_Symbol _ _).mono ?_; rintro e w' ⟨rfl, rfl⟩))
        have hc0 := heap_cell HS.out (j := 0) rfl
        have hc1 := heap_cell HS.out (j := 1) rfl
        have hc2 := heap_cell HS.out (j := 2) rfl
        refine bodyPost_ret (v := .agg #[.int .i64 5, .string (t.extract i (i + 1)), .int .i64 i]) (by simp [results, Tryd.results53, go_sem, hc0, hc1, hc2]) rfl ?_
        exact GivesTok.mk' HT.out rfl HB2.out
      case false =>
        have HT := hid (show tkAt t i = (0, i) by rw [hT0, hsy]; rfl)
        have HS := hid (heap_alloc_new w (.cells #[.int .i64 0, .string ⟨#[]⟩, .int .i64 0] 68))
        have HB2 := hid ((Below.refl w.heap.size w).alloc (Nat.le_refl _) (.cells #[.int .i64 0, .string ⟨#[]⟩, .int .i64 0] 68))
        clear hT0
        go_enter Tryd.func53, Tryd.ntmps53
        go_wp2_with (first
          | (go_at_call 79; refine (spec_Letter _ _).mono ?_; rintro e w' ⟨rfl, rfl⟩)
          | (go_at_call 22; refine (spec_Digit _ _).mono ?_; rintro e w' ⟨rfl, rfl⟩)
          | (go_at_call 85; refine (spec_Symbol _ _).mono ?_; rintro e w' ⟨rfl, rfl⟩))
        have hc0 := heap_cell HS.out (j := 0) rfl
        have hc1 := heap_cell HS.out (j := 1) rfl
        have hc2 := heap_cell HS.out (j := 2) rfl
        refine bodyPost_ret (v := .agg #[.int .i64 0, .string ⟨#[]⟩, .int .i64 0]) (by simp [results, Tryd.results53, go_sem, hc0, hc1, hc2]) rfl ?_
        exact GivesTok.no HT.out HB2.out
end Go.Proofs.YtikhofcjkcbpbaaDoor
