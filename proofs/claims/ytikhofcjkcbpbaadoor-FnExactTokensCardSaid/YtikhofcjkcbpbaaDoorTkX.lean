/- Tokens: walks of l04Tokens and Tokens in the reference. No condition. -/
import Derived.Test.YtikhofcjkcbpbaaDoorTkW
namespace Go.Proofs.YtikhofcjkcbpbaaDoor
open Go.ChangeShapes Go.WideShapes Go.ChangeAt Go.RowKit
set_option linter.unusedVariables false

theorem kw_num {s : ByteArray} (h : isKw s = true) : numB s = false := by
  unfold isKw hasStr at h
  have hm := (idxFrom_ge s 0 kws).1 (of_decide_eq_true h)
  simp only [kws, List.mem_cons, List.not_mem_nil, or_false] at hm
  rcases hm with rfl | rfl | rfl | rfl | rfl | rfl | rfl | rfl <;> decide +kernel
theorem spec_Token (t : ByteArray) (i : Nat) (hi : i < t.size) (hs : t.size ≤ 1048576) (w : World) :
    Calls Tryd.prog 53 #[.string t, .int .i64 i] w (GivesTok t i w) := by
  cases hw : wordB (byteAt t i)
  case false => exact spec_Token_sym t i hi hs hw w
  case true =>
    cases c1 : isKw (t.extract i (wEnd t i))
    case true =>
      have hn := name_kw c1
      exact spec_Token_kw t i hi hs hw c1 (by unfold isLowerB; rw [hn]; rfl) (by unfold isUpperB; rw [hn]; rfl) (kw_num c1) w
    case false =>
      cases c2 : isLowerB (t.extract i (wEnd t i))
      case true =>
        have c2' := c2
        unfold isLowerB at c2'
        rw [Bool.and_eq_true] at c2'
        have hc : capB (byteAt (t.extract i (wEnd t i)) 0) = false := by
          have h := c2'.2
          simp only [smallB, decide_eq_true_eq] at h
          simp only [capB, decide_eq_false_iff_not]
          omega
        exact spec_Token_lo t i hi hs hw c1 c2 (by unfold isUpperB; rw [hc, Bool.and_false]) (name_num c2'.1) w
      case false =>
        cases c3 : isUpperB (t.extract i (wEnd t i))
        case true =>
          have c3' := c3
          unfold isUpperB at c3'
          rw [Bool.and_eq_true] at c3'
          exact spec_Token_up t i hi hs hw c1 c2 c3 (name_num c3'.1) w
        case false =>
          cases c4 : numB (t.extract i (wEnd t i))
          case true => exact spec_Token_nu t i hi hs hw c1 c2 c3 c4 w
          case false => exact spec_Token_no t i hi hs hw c1 c2 c3 c4 w
def GivesRun : List Tk × Option Nat → World → Ending → World → Prop
  | (L, none), w, e, w' => ∃ v, e = .returned (.tuple #[v, .int .i64 0, .bool true]) ∧ OwnTk w' w.heap.size v L ∧ (∀ x ∈ L, tkFine x) ∧ Below w.heap.size w w'
  | (_, some i), w, e, w' => e = .returned (.tuple #[.slice none 0 0, .int .i64 (i : Int), .bool false]) ∧ Below w.heap.size w w'
theorem GivesRun.ok {R : List Tk × Option Nat} {L : List Tk} {w w' : World} {v : Value} (hR : R = (L, none)) (ho : OwnTk w' w.heap.size v L) (hL : ∀ x ∈ L, tkFine x) (hb : Below w.heap.size w w') : GivesRun R w (.returned (.tuple #[v, .int .i64 0, .bool true])) w' := by
  subst hR; exact ⟨v, rfl, ho, hL, hb⟩
theorem GivesRun.bad {R : List Tk × Option Nat} {L : List Tk} {i : Nat} {w w' : World} (hR : R = (L, some i)) (hb : Below w.heap.size w w') : GivesRun R w (.returned (.tuple #[.slice none 0 0, .int .i64 (i : Int), .bool false])) w' := by
  subst hR; exact ⟨rfl, hb⟩
set_option maxRecDepth 100000 in
set_option maxHeartbeats 2000000 in
theorem spec_l04Tokens (t : ByteArray) (hs : t.size ≤ 20000) (w : World) :
    Calls Tryd.prog 36 #[.string t] w (GivesRun (tkRun t t.size 0 []) w) := by
  generalize hR : tkRun t t.size 0 [] = R
  have HRR := hid hR
  clear hR
  go_enter Tryd.func36, Tryd.ntmps36
  go_wp2_with fail
  go_loopw [5, 6] (fun l v wr => ∃ (i : Nat) (acc : List Tk), i ≤ t.size ∧ v = .int .i64 i ∧ acc.length ≤ i ∧ Hid (OwnTk wr w.heap.size l acc) ∧ Hid (tkRest t i acc R) ∧ Hid (∀ x ∈ acc, tkFine x) ∧ Hid (Below w.heap.size w wr)) (fun _ v _ => t.size - (intOf v).toNat)
  case atStart => exact ⟨0, [], by omega, rfl, by simp, World.ownsRow_made w #[] 0 (Nat.le_refl _) (by unfold maxLen; omega) rfl, ⟨t.size, by omega, HRR.out⟩, hid (fun x hx => by simp at hx), (Below.refl _ _).alloc (Nat.le_refl _) _⟩
  case round =>
    obtain ⟨i, acc, hi, rfl, hal, HO, HT, HF, HB⟩ := hrel
    by_cases hlt : i < t.size
    case neg =>
      have HG := hid (GivesRun.ok (tkRest_end HT.out hlt) HO.out HF.out HB.out)
      go_wp2_with fail
      go_ret3
      exact HG.out
    case pos =>
      have HBI := hid (byteAt_eq hlt)
      cases hb : inL blkL (byteAt t i)
      case true =>
        have HT2 := hid (tkRest_blank HT.out hlt hb)
        have hbl := fun W => spec_Blank (t[i].toNat : Int) W
        rw [← HBI.out, hb, HBI.out] at hbl
        have HBL := hid hbl
        clear hb hbl
        go_wp2_with fail
        refine (HBL.out _).mono ?_
        rintro e w1 ⟨rfl, rfl⟩
        go_wp2_with fail
        go_roundw
        case rel => exact ⟨i + 1, acc, by omega, by go_num, by omega, HO, HT2, HF, HB⟩
        case measure => first | (simp [intOf]; done) | (simp [intOf]; omega)
      case false =>
        have hbl := fun W => spec_Blank (t[i].toNat : Int) W
        rw [← HBI.out, hb, HBI.out] at hbl
        have HBL := hid hbl
        have HC := hid (fun W => spec_Token t i hlt (by omega) W)
        clear hbl
        by_cases hk : (tkAt t i).1 = 0
        case pos =>
          have HRb := hid (tkRest_bad HT.out hlt hb hk)
          unfold GivesTok at HC
          rw [hk] at HC
          clear hb hk
          go_wp2_with fail
          refine (HBL.out _).mono ?_
          rintro e w1 ⟨rfl, rfl⟩
          go_wp2_with fail
          refine (HC.out _).mono ?_
          rintro e w2 ⟨n, p, rfl, -, hb2⟩
          have y0 := heap_cell (heap_alloc_new w2 (.cells #[.int .i64 0, .string n, .int .i64 p] 68)) (j := 0) rfl
          have HB2 := hid ((HB.out.trans (hb2.mono HB.out.size)).alloc (HB.out.trans (hb2.mono HB.out.size)).size (.cells #[.int .i64 0, .string n, .int .i64 p] 68))
          clear hb2
          go_wp2_with fail
          go_ret3
          exact GivesRun.bad HRb.out HB2.out
        case neg =>
          have HT2 := hid (tkRest_more HT.out hlt hb hk)
          obtain ⟨hb1, hb2⟩ := tkAt_bound hlt hk
          have hin := tkAt_in t i
          unfold GivesTok at HC
          generalize tkAt t i = q at HC HT2 hb1 hb2 hin hk
          obtain ⟨k, e0⟩ := q
          simp only at HC HT2 hb1 hb2 hin hk
          have hkf : (k == 0) = false := by simpa using hk
          have hse : (t.extract i e0).size = e0 - i := by rw [ByteArray.size_extract]; omega
          have HF2 := hid (show ∀ x ∈ acc ++ [Tk.mk k (t.extract i e0) i], tkFine x by
            intro x hx
            rcases List.mem_append.1 hx with h | h
            · exact HF.out x h
            · simp only [List.mem_singleton] at h
              subst h
              exact ⟨hin, by omega, by omega, by omega⟩)
          have HKN := hid hk
          clear hb hk hin
          go_wp2_with fail
          refine (HBL.out _).mono ?_
          rintro e w1 ⟨rfl, rfl⟩
          go_wp2_with fail
          refine (HC.out _).mono ?_
          rintro e w2 ⟨n, p, rfl, hnp, hb3⟩
          obtain ⟨rfl, rfl⟩ := hnp HKN.out
          have hba := (Below.refl w2.heap.size w2).alloc (Nat.le_refl _) (.cells #[.int .i64 k, .string (t.extract i e0), .int .i64 i] 68)
          have y0 := heap_cell (heap_alloc_new w2 (.cells #[.int .i64 k, .string (t.extract i e0), .int .i64 i] 68)) (j := 0) rfl
          have y1 := heap_cell (heap_alloc_new w2 (.cells #[.int .i64 k, .string (t.extract i e0), .int .i64 i] 68)) (j := 1) rfl
          have y2 := heap_cell (heap_alloc_new w2 (.cells #[.int .i64 k, .string (t.extract i e0), .int .i64 i] 68)) (j := 2) rfl
          have HO1 := hid (ownsRow.below HO.out hb3)
          have HO2 := hid (ownsRow.below HO1.out hba)
          have HB2 := hid (HB.out.trans ((hb3.trans (hba.mono hb3.size)).mono HB.out.size))
          have HNE := hid HO1.out.lt
          clear hb3 hnp hba
          go_wp2_with (at_builtin; refine wpList_append_tk rfl _ _ rfl w.heap.size _ acc k (t.extract i e0) i ⟨w2.heap.size + 1, 0, none⟩ rfl rfl (HO2.out.alloc _) ?c0 ?c1 ?c2 ?_)
          case c0 =>
            have h := World.news_of_block (heap_alloc_new (w2.alloc (.cells #[.int .i64 k, .string (t.extract i e0), .int .i64 i] 68)) (.cells #[.int .i64 k, .string (t.extract i e0), .int .i64 i] 68))
            simpa using h
          case c1 => omega
          case c2 => exact Nat.le_trans HB2.out.size (by simp)
          intro v2 w3 ho2 hg2
          have HO3 := hid (show OwnTk w3 w.heap.size v2 (acc ++ [Tk.mk k (t.extract i e0) i]) by simpa [OwnTk] using ho2)
          have HB3 := hid (OwnTk.next (HB2.out.alloc HB2.out.size _) (Nat.le_trans HB2.out.size (by simp)) (HO2.out.alloc _) hg2)
          have y3 := (hg2.cell_far ⟨w2.heap.size, 1, none⟩ (by simp; omega) (fun h => Nat.lt_irrefl _ (HNE.out _ h.symm).2)).trans (((Below.refl _ _).alloc (Nat.le_refl _) _).cell (p := ⟨w2.heap.size, 1, none⟩) (by simp) |>.trans y1)
          have hsum : (i : Int) + ((t.extract i e0).size : Int) = (e0 : Int) := by omega
          clear ho2 hg2 y0 y1 y2
          go_wp2_with fail
          go_roundw
          case rel => exact ⟨e0, acc ++ [Tk.mk k (t.extract i e0) i], hb2, by go_num, by simp; omega, HO3, HT2, HF2, HB3⟩
          case measure => first | (simp [intOf]; done) | (simp [intOf]; omega)
set_option maxRecDepth 100000 in
theorem spec_Tokens (t : ByteArray) (hs : t.size ≤ 1048576) (w : World) :
    Calls Tryd.prog 16 #[.string t] w (GivesTks (tkRes t) w) := by
  by_cases h2 : 20000 < t.size
  case pos =>
    have HR := hid (tkRes_long h2)
    go_enter Tryd.func16, Tryd.ntmps16
    go_wp2_with fail
    go_ret3
    exact GivesTks.none HR.out (Below.refl _ _)
  case neg =>
    have HC := hid (spec_l04Tokens t (by omega) w)
    rcases hR : tkRun t t.size 0 [] with ⟨L, _ | i⟩
    · have HR := hid (tkRes_ok h2 hR)
      rw [hR] at HC
      clear hR
      go_enter Tryd.func16, Tryd.ntmps16
      go_wp2_with fail
      refine HC.out.mono ?_
      rintro e w1 ⟨v, rfl, ho, hL, hb⟩
      have HG := hid (GivesTks.some HR.out ho hL hb)
      clear ho hL hb
      go_wp2_with fail
      go_ret3
      exact HG.out
    · have HR := hid (tkRes_bad h2 hR)
      rw [hR] at HC
      clear hR
      go_enter Tryd.func16, Tryd.ntmps16
      go_wp2_with fail
      refine HC.out.mono ?_
      rintro e w1 ⟨rfl, hb⟩
      have HG := hid (GivesTks.none HR.out hb)
      clear hb
      go_wp2_with fail
      go_ret3
      exact HG.out
end Go.Proofs.YtikhofcjkcbpbaaDoor
