/- Tokens: walks of l04Token in the reference, at a word. No condition. -/
import Derived.Test.YtikhofcjkcbpbaaDoorTkV
namespace Go.Proofs.YtikhofcjkcbpbaaDoor
open Go.ChangeShapes Go.WideShapes Go.ChangeAt Go.RowKit
set_option linter.unusedVariables false

theorem heap_liftT {w w' : World} {b : Nat} {o : Obj} (h : w.heap[b]? = some o) (hb : Below w.heap.size w w') : w'.heap[b]? = some o := (hb.block _ (Array.getElem?_eq_some_iff.1 h).1).trans h
set_option maxRecDepth 100000 in
set_option maxHeartbeats 1000000 in
theorem spec_Token_kw (t : ByteArray) (i : Nat) (hi : i < t.size) (hs : t.size ≤ 1048576) (hw : wordB (byteAt t i) = true) (c1 : isKw (t.extract i (wEnd t i)) = true) (c2 : isLowerB (t.extract i (wEnd t i)) = false) (c3 : isUpperB (t.extract i (wEnd t i)) = false) (c4 : numB (t.extract i (wEnd t i)) = false) (w : World) :
    Calls Tryd.prog 53 #[.string t, .int .i64 i] w (GivesTok t i w) := by
  have HBI := hid (byteAt_eq hi)
  have hb1 := wEnd_lt hi hw
  have hb2 := (wEnd_bound (Nat.le_of_lt hi)).2
  have HEN := hid (fun W => spec_End t i (Nat.le_of_lt hi) hs W)
  have hT0 : tkAt t i = if tkKind (t.extract i (wEnd t i)) = 0 then (0, i) else (tkKind (t.extract i (wEnd t i)), wEnd t i) := by unfold tkAt; rw [if_pos hw]
  generalize wEnd t i = e0 at hb1 hb2 HEN hT0 c1 c2 c3 c4
  have hse : (t.extract i e0).size = e0 - i := by rw [ByteArray.size_extract]; omega
  have hkk : tkKind (t.extract i e0) = 3 := by unfold tkKind; simp [c1]
  have HT := hid (show tkAt t i = (3, e0) by rw [hT0, hkk]; rfl)
  have hk := fun W => spec_IsKeyword (t.extract i e0) W
  have hl := fun W => spec_IsLower (t.extract i e0) W
  have hu := fun W => spec_IsUpper (t.extract i e0) W
  have hn := fun W => spec_Number (t.extract i e0) (by omega) (by omega) W
  rw [c1] at hk
  rw [c2] at hl
  rw [c3] at hu
  rw [c4] at hn
  have HK := hid hk
  have HL := hid hl
  have HU := hid hu
  have HN := hid hn
  have hle : i ≤ e0 := Nat.le_of_lt hb1
  have hle2 : (i : Int) ≤ (e0 : Int) := by omega
  have hle3 : (e0 : Int) ≤ (t.size : Int) := by omega
  have hal := alloc2 w (.cells #[.int .i64 0, .string ⟨#[]⟩, .int .i64 0] 68) (.cells #[.int .i64 0, .string (t.extract i e0), .int .i64 i] 68)
  have A4 := hid hal.1
  have A7 := hid hal.2.1
  have AB := hid hal.2.2.2
  rw [HBI.out, word_or] at hw
  clear hk hl hu hn hT0 hkk hse hal c1 c2 c3 c4
  cases hlt : letB (t[i].toNat : Int)
  case true =>
    clear hw
    go_enter Tryd.func53, Tryd.ntmps53
    go_wp2_with (first
      | (go_at_call 79; refine (spec_Letter _ _).mono ?_; rintro e w' ⟨rfl, rfl⟩)
      | (go_at_call 22; refine (spec_Digit _ _).mono ?_; rintro e w' ⟨rfl, rfl⟩)
      | (go_at_call 80; refine (HEN.out _).mono ?_; rintro e w' ⟨rfl, rfl⟩))
    refine (HK.out _).mono ?_
    rintro e w1 ⟨rfl, hb1⟩
    have P1 := hid (heap_liftT A4.out hb1)
    have Q1 := hid (heap_liftT A7.out hb1)
    have B1 := hid (AB.out.trans (hb1.mono AB.out.size))
    clear hb1
    have z0 := heap_free Q1.out 0
    have r0 := heap_cell Q1.out (j := 0) rfl
    have PS := hid (show (w1.setCell ⟨(w.heap.size + 1), 0, none⟩ (.int .i64 3)).heap[w.heap.size]? = some (.cells #[.int .i64 0, .string ⟨#[]⟩, .int .i64 0] 68 (0, 0)) from (heap_set_ne0 _ (by omega)).trans P1.out)
    have QS := hid (show (w1.setCell ⟨(w.heap.size + 1), 0, none⟩ (.int .i64 3)).heap[(w.heap.size + 1)]? = some (.cells #[.int .i64 3, .string (t.extract i e0), .int .i64 i] 68 (0, 0)) from heap_setCell_at w1 (w.heap.size + 1) 0 (.int .i64 3) Q1.out)
    have BS := hid (B1.out.setCell (p := ⟨(w.heap.size + 1), 0, none⟩) (by simp) (.int .i64 3))
    go_wp2_with fail
    clear z0 r0
    refine (HL.out _).mono ?_
    rintro e w2 ⟨rfl, hb2⟩
    have P2 := hid (heap_liftT PS.out hb2)
    have Q2 := hid (heap_liftT QS.out hb2)
    have B2 := hid (BS.out.trans (hb2.mono BS.out.size))
    clear hb2
    go_wp2_with fail
    refine (HU.out _).mono ?_
    rintro e w3 ⟨rfl, hb3⟩
    have P3 := hid (heap_liftT P2.out hb3)
    have Q3 := hid (heap_liftT Q2.out hb3)
    have B3 := hid (B2.out.trans (hb3.mono B2.out.size))
    clear hb3
    go_wp2_with fail
    refine (HN.out _).mono ?_
    rintro e w4 ⟨rfl, rfl⟩
    have y0 := heap_cell Q3.out (j := 0) rfl
    have y1 := heap_cell Q3.out (j := 1) rfl
    have y2 := heap_cell Q3.out (j := 2) rfl
    have x0 := heap_cell P3.out (j := 0) rfl
    have f0 := heap_free P3.out 0
    have x1 := heap_cell P3.out (j := 1) rfl
    have f1 := heap_free P3.out 1
    have x2 := heap_cell P3.out (j := 2) rfl
    have f2 := heap_free P3.out 2
    have HS := hid (set3 P3.out (.int .i64 3) (.string (t.extract i e0)) (.int .i64 i))
    have BZ := hid (((B3.out.setCell (p := ⟨w.heap.size, 0, none⟩) (by simp) (.int .i64 3)).setCell (p := ⟨w.heap.size, 1, none⟩) (by simp) (.string (t.extract i e0))).setCell (p := ⟨w.heap.size, 2, none⟩) (by simp) (.int .i64 i))
    go_wp2_with fail
    have hc0 := heap_cell HS.out (j := 0) rfl
    have hc1 := heap_cell HS.out (j := 1) rfl
    have hc2 := heap_cell HS.out (j := 2) rfl
    refine bodyPost_ret (v := .agg #[.int .i64 3, .string (t.extract i e0), .int .i64 i]) (by simp [results, Tryd.results53, go_sem, hc0, hc1, hc2]) rfl ?_
    exact GivesTok.mk' HT.out rfl BZ.out

  case false =>
    have hdg : digB (t[i].toNat : Int) = true := by rw [hlt] at hw; simpa using hw
    clear hw
    go_enter Tryd.func53, Tryd.ntmps53
    go_wp2_with (first
      | (go_at_call 79; refine (spec_Letter _ _).mono ?_; rintro e w' ⟨rfl, rfl⟩)
      | (go_at_call 22; refine (spec_Digit _ _).mono ?_; rintro e w' ⟨rfl, rfl⟩)
      | (go_at_call 80; refine (HEN.out _).mono ?_; rintro e w' ⟨rfl, rfl⟩))
    refine (HK.out _).mono ?_
    rintro e w1 ⟨rfl, hb1⟩
    have P1 := hid (heap_liftT A4.out hb1)
    have Q1 := hid (heap_liftT A7.out hb1)
    have B1 := hid (AB.out.trans (hb1.mono AB.out.size))
    clear hb1
    have z0 := heap_free Q1.out 0
    have r0 := heap_cell Q1.out (j := 0) rfl
    have PS := hid (show (w1.setCell ⟨(w.heap.size + 1), 0, none⟩ (.int .i64 3)).heap[w.heap.size]? = some (.cells #[.int .i64 0, .string ⟨#[]⟩, .int .i64 0] 68 (0, 0)) from (heap_set_ne0 _ (by omega)).trans P1.out)
    have QS := hid (show (w1.setCell ⟨(w.heap.size + 1), 0, none⟩ (.int .i64 3)).heap[(w.heap.size + 1)]? = some (.cells #[.int .i64 3, .string (t.extract i e0), .int .i64 i] 68 (0, 0)) from heap_setCell_at w1 (w.heap.size + 1) 0 (.int .i64 3) Q1.out)
    have BS := hid (B1.out.setCell (p := ⟨(w.heap.size + 1), 0, none⟩) (by simp) (.int .i64 3))
    go_wp2_with fail
    clear z0 r0
    refine (HL.out _).mono ?_
    rintro e w2 ⟨rfl, hb2⟩
    have P2 := hid (heap_liftT PS.out hb2)
    have Q2 := hid (heap_liftT QS.out hb2)
    have B2 := hid (BS.out.trans (hb2.mono BS.out.size))
    clear hb2
    go_wp2_with fail
    refine (HU.out _).mono ?_
    rintro e w3 ⟨rfl, hb3⟩
    have P3 := hid (heap_liftT P2.out hb3)
    have Q3 := hid (heap_liftT Q2.out hb3)
    have B3 := hid (B2.out.trans (hb3.mono B2.out.size))
    clear hb3
    go_wp2_with fail
    refine (HN.out _).mono ?_
    rintro e w4 ⟨rfl, rfl⟩
    have y0 := heap_cell Q3.out (j := 0) rfl
    have y1 := heap_cell Q3.out (j := 1) rfl
    have y2 := heap_cell Q3.out (j := 2) rfl
    have x0 := heap_cell P3.out (j := 0) rfl
    have f0 := heap_free P3.out 0
    have x1 := heap_cell P3.out (j := 1) rfl
    have f1 := heap_free P3.out 1
    have x2 := heap_cell P3.out (j := 2) rfl
    have f2 := heap_free P3.out 2
    have HS := hid (set3 P3.out (.int .i64 3) (.string (t.extract i e0)) (.int .i64 i))
    have BZ := hid (((B3.out.setCell (p := ⟨w.heap.size, 0, none⟩) (by simp) (.int .i64 3)).setCell (p := ⟨w.heap.size, 1, none⟩) (by simp) (.string (t.extract i e0))).setCell (p := ⟨w.heap.size, 2, none⟩) (by simp) (.int .i64 i))
    go_wp2_with fail
    have hc0 := heap_cell HS.out (j := 0) rfl
    have hc1 := heap_cell HS.out (j := 1) rfl
    have hc2 := heap_cell HS.out (j := 2) rfl
    refine bodyPost_ret (v := .agg #[.int .i64 3, .string (t.extract i e0), .int .i64 i]) (by simp [results, Tryd.results53, go_sem, hc0, hc1, hc2]) rfl ?_
    exact GivesTok.mk' HT.out rfl BZ.out

set_option maxRecDepth 100000 in
set_option maxHeartbeats 1000000 in
theorem spec_Token_lo (t : ByteArray) (i : Nat) (hi : i < t.size) (hs : t.size ≤ 1048576) (hw : wordB (byteAt t i) = true) (c1 : isKw (t.extract i (wEnd t i)) = false) (c2 : isLowerB (t.extract i (wEnd t i)) = true) (c3 : isUpperB (t.extract i (wEnd t i)) = false) (c4 : numB (t.extract i (wEnd t i)) = false) (w : World) :
    Calls Tryd.prog 53 #[.string t, .int .i64 i] w (GivesTok t i w) := by
  have HBI := hid (byteAt_eq hi)
  have hb1 := wEnd_lt hi hw
  have hb2 := (wEnd_bound (Nat.le_of_lt hi)).2
  have HEN := hid (fun W => spec_End t i (Nat.le_of_lt hi) hs W)
  have hT0 : tkAt t i = if tkKind (t.extract i (wEnd t i)) = 0 then (0, i) else (tkKind (t.extract i (wEnd t i)), wEnd t i) := by unfold tkAt; rw [if_pos hw]
  generalize wEnd t i = e0 at hb1 hb2 HEN hT0 c1 c2 c3 c4
  have hse : (t.extract i e0).size = e0 - i := by rw [ByteArray.size_extract]; omega
  have hkk : tkKind (t.extract i e0) = 1 := by unfold tkKind; simp [c1, c2]
  have HT := hid (show tkAt t i = (1, e0) by rw [hT0, hkk]; rfl)
  have hk := fun W => spec_IsKeyword (t.extract i e0) W
  have hl := fun W => spec_IsLower (t.extract i e0) W
  have hu := fun W => spec_IsUpper (t.extract i e0) W
  have hn := fun W => spec_Number (t.extract i e0) (by omega) (by omega) W
  rw [c1] at hk
  rw [c2] at hl
  rw [c3] at hu
  rw [c4] at hn
  have HK := hid hk
  have HL := hid hl
  have HU := hid hu
  have HN := hid hn
  have hle : i ≤ e0 := Nat.le_of_lt hb1
  have hle2 : (i : Int) ≤ (e0 : Int) := by omega
  have hle3 : (e0 : Int) ≤ (t.size : Int) := by omega
  have hal := alloc2 w (.cells #[.int .i64 0, .string ⟨#[]⟩, .int .i64 0] 68) (.cells #[.int .i64 0, .string (t.extract i e0), .int .i64 i] 68)
  have A4 := hid hal.1
  have A7 := hid hal.2.1
  have AB := hid hal.2.2.2
  rw [HBI.out, word_or] at hw
  clear hk hl hu hn hT0 hkk hse hal c1 c2 c3 c4
  cases hlt : letB (t[i].toNat : Int)
  case true =>
    clear hw
    go_enter Tryd.func53, Tryd.ntmps53
    go_wp2_with (first
      | (go_at_call 79; refine (spec_Letter _ _).mono ?_; rintro e w' ⟨rfl, rfl⟩)
      | (go_at_call 22; refine (spec_Digit _ _).mono ?_; rintro e w' ⟨rfl, rfl⟩)
      | (go_at_call 80; refine (HEN.out _).mono ?_; rintro e w' ⟨rfl, rfl⟩))
    refine (HK.out _).mono ?_
    rintro e w1 ⟨rfl, hb1⟩
    have P1 := hid (heap_liftT A4.out hb1)
    have Q1 := hid (heap_liftT A7.out hb1)
    have B1 := hid (AB.out.trans (hb1.mono AB.out.size))
    clear hb1
    go_wp2_with fail
    refine (HL.out _).mono ?_
    rintro e w2 ⟨rfl, hb2⟩
    have P2 := hid (heap_liftT P1.out hb2)
    have Q2 := hid (heap_liftT Q1.out hb2)
    have B2 := hid (B1.out.trans (hb2.mono B1.out.size))
    clear hb2
    have z0 := heap_free Q2.out 0
    have r0 := heap_cell Q2.out (j := 0) rfl
    have PS := hid (show (w2.setCell ⟨(w.heap.size + 1), 0, none⟩ (.int .i64 1)).heap[w.heap.size]? = some (.cells #[.int .i64 0, .string ⟨#[]⟩, .int .i64 0] 68 (0, 0)) from (heap_set_ne0 _ (by omega)).trans P2.out)
    have QS := hid (show (w2.setCell ⟨(w.heap.size + 1), 0, none⟩ (.int .i64 1)).heap[(w.heap.size + 1)]? = some (.cells #[.int .i64 1, .string (t.extract i e0), .int .i64 i] 68 (0, 0)) from heap_setCell_at w2 (w.heap.size + 1) 0 (.int .i64 1) Q2.out)
    have BS := hid (B2.out.setCell (p := ⟨(w.heap.size + 1), 0, none⟩) (by simp) (.int .i64 1))
    go_wp2_with fail
    clear z0 r0
    refine (HU.out _).mono ?_
    rintro e w3 ⟨rfl, hb3⟩
    have P3 := hid (heap_liftT PS.out hb3)
    have Q3 := hid (heap_liftT QS.out hb3)
    have B3 := hid (BS.out.trans (hb3.mono BS.out.size))
    clear hb3
    go_wp2_with fail
    refine (HN.out _).mono ?_
    rintro e w4 ⟨rfl, rfl⟩
    have y0 := heap_cell Q3.out (j := 0) rfl
    have y1 := heap_cell Q3.out (j := 1) rfl
    have y2 := heap_cell Q3.out (j := 2) rfl
    have x0 := heap_cell P3.out (j := 0) rfl
    have f0 := heap_free P3.out 0
    have x1 := heap_cell P3.out (j := 1) rfl
    have f1 := heap_free P3.out 1
    have x2 := heap_cell P3.out (j := 2) rfl
    have f2 := heap_free P3.out 2
    have HS := hid (set3 P3.out (.int .i64 1) (.string (t.extract i e0)) (.int .i64 i))
    have BZ := hid (((B3.out.setCell (p := ⟨w.heap.size, 0, none⟩) (by simp) (.int .i64 1)).setCell (p := ⟨w.heap.size, 1, none⟩) (by simp) (.string (t.extract i e0))).setCell (p := ⟨w.heap.size, 2, none⟩) (by simp) (.int .i64 i))
    go_wp2_with fail
    have hc0 := heap_cell HS.out (j := 0) rfl
    have hc1 := heap_cell HS.out (j := 1) rfl
    have hc2 := heap_cell HS.out (j := 2) rfl
    refine bodyPost_ret (v := .agg #[.int .i64 1, .string (t.extract i e0), .int .i64 i]) (by simp [results, Tryd.results53, go_sem, hc0, hc1, hc2]) rfl ?_
    exact GivesTok.mk' HT.out rfl BZ.out

  case false =>
    have hdg : digB (t[i].toNat : Int) = true := by rw [hlt] at hw; simpa using hw
    clear hw
    go_enter Tryd.func53, Tryd.ntmps53
    go_wp2_with (first
      | (go_at_call 79; refine (spec_Letter _ _).mono ?_; rintro e w' ⟨rfl, rfl⟩)
      | (go_at_call 22; refine (spec_Digit _ _).mono ?_; rintro e w' ⟨rfl, rfl⟩)
      | (go_at_call 80; refine (HEN.out _).mono ?_; rintro e w' ⟨rfl, rfl⟩))
    refine (HK.out _).mono ?_
    rintro e w1 ⟨rfl, hb1⟩
    have P1 := hid (heap_liftT A4.out hb1)
    have Q1 := hid (heap_liftT A7.out hb1)
    have B1 := hid (AB.out.trans (hb1.mono AB.out.size))
    clear hb1
    go_wp2_with fail
    refine (HL.out _).mono ?_
    rintro e w2 ⟨rfl, hb2⟩
    have P2 := hid (heap_liftT P1.out hb2)
    have Q2 := hid (heap_liftT Q1.out hb2)
    have B2 := hid (B1.out.trans (hb2.mono B1.out.size))
    clear hb2
    have z0 := heap_free Q2.out 0
    have r0 := heap_cell Q2.out (j := 0) rfl
    have PS := hid (show (w2.setCell ⟨(w.heap.size + 1), 0, none⟩ (.int .i64 1)).heap[w.heap.size]? = some (.cells #[.int .i64 0, .string ⟨#[]⟩, .int .i64 0] 68 (0, 0)) from (heap_set_ne0 _ (by omega)).trans P2.out)
    have QS := hid (show (w2.setCell ⟨(w.heap.size + 1), 0, none⟩ (.int .i64 1)).heap[(w.heap.size + 1)]? = some (.cells #[.int .i64 1, .string (t.extract i e0), .int .i64 i] 68 (0, 0)) from heap_setCell_at w2 (w.heap.size + 1) 0 (.int .i64 1) Q2.out)
    have BS := hid (B2.out.setCell (p := ⟨(w.heap.size + 1), 0, none⟩) (by simp) (.int .i64 1))
    go_wp2_with fail
    clear z0 r0
    refine (HU.out _).mono ?_
    rintro e w3 ⟨rfl, hb3⟩
    have P3 := hid (heap_liftT PS.out hb3)
    have Q3 := hid (heap_liftT QS.out hb3)
    have B3 := hid (BS.out.trans (hb3.mono BS.out.size))
    clear hb3
    go_wp2_with fail
    refine (HN.out _).mono ?_
    rintro e w4 ⟨rfl, rfl⟩
    have y0 := heap_cell Q3.out (j := 0) rfl
    have y1 := heap_cell Q3.out (j := 1) rfl
    have y2 := heap_cell Q3.out (j := 2) rfl
    have x0 := heap_cell P3.out (j := 0) rfl
    have f0 := heap_free P3.out 0
    have x1 := heap_cell P3.out (j := 1) rfl
    have f1 := heap_free P3.out 1
    have x2 := heap_cell P3.out (j := 2) rfl
    have f2 := heap_free P3.out 2
    have HS := hid (set3 P3.out (.int .i64 1) (.string (t.extract i e0)) (.int .i64 i))
    have BZ := hid (((B3.out.setCell (p := ⟨w.heap.size, 0, none⟩) (by simp) (.int .i64 1)).setCell (p := ⟨w.heap.size, 1, none⟩) (by simp) (.string (t.extract i e0))).setCell (p := ⟨w.heap.size, 2, none⟩) (by simp) (.int .i64 i))
    go_wp2_with fail
    have hc0 := heap_cell HS.out (j := 0) rfl
    have hc1 := heap_cell HS.out (j := 1) rfl
    have hc2 := heap_cell HS.out (j := 2) rfl
    refine bodyPost_ret (v := .agg #[.int .i64 1, .string (t.extract i e0), .int .i64 i]) (by simp [results, Tryd.results53, go_sem, hc0, hc1, hc2]) rfl ?_
    exact GivesTok.mk' HT.out rfl BZ.out

set_option maxRecDepth 100000 in
set_option maxHeartbeats 1000000 in
theorem spec_Token_up (t : ByteArray) (i : Nat) (hi : i < t.size) (hs : t.size ≤ 1048576) (hw : wordB (byteAt t i) = true) (c1 : isKw (t.extract i (wEnd t i)) = false) (c2 : isLowerB (t.extract i (wEnd t i)) = false) (c3 : isUpperB (t.extract i (wEnd t i)) = true) (c4 : numB (t.extract i (wEnd t i)) = false) (w : World) :
    Calls Tryd.prog 53 #[.string t, .int .i64 i] w (GivesTok t i w) := by
  have HBI := hid (byteAt_eq hi)
  have hb1 := wEnd_lt hi hw
  have hb2 := (wEnd_bound (Nat.le_of_lt hi)).2
  have HEN := hid (fun W => spec_End t i (Nat.le_of_lt hi) hs W)
  have hT0 : tkAt t i = if tkKind (t.extract i (wEnd t i)) = 0 then (0, i) else (tkKind (t.extract i (wEnd t i)), wEnd t i) := by unfold tkAt; rw [if_pos hw]
  generalize wEnd t i = e0 at hb1 hb2 HEN hT0 c1 c2 c3 c4
  have hse : (t.extract i e0).size = e0 - i := by rw [ByteArray.size_extract]; omega
  have hkk : tkKind (t.extract i e0) = 2 := by unfold tkKind; simp [c1, c2, c3]
  have HT := hid (show tkAt t i = (2, e0) by rw [hT0, hkk]; rfl)
  have hk := fun W => spec_IsKeyword (t.extract i e0) W
  have hl := fun W => spec_IsLower (t.extract i e0) W
  have hu := fun W => spec_IsUpper (t.extract i e0) W
  have hn := fun W => spec_Number (t.extract i e0) (by omega) (by omega) W
  rw [c1] at hk
  rw [c2] at hl
  rw [c3] at hu
  rw [c4] at hn
  have HK := hid hk
  have HL := hid hl
  have HU := hid hu
  have HN := hid hn
  have hle : i ≤ e0 := Nat.le_of_lt hb1
  have hle2 : (i : Int) ≤ (e0 : Int) := by omega
  have hle3 : (e0 : Int) ≤ (t.size : Int) := by omega
  have hal := alloc2 w (.cells #[.int .i64 0, .string ⟨#[]⟩, .int .i64 0] 68) (.cells #[.int .i64 0, .string (t.extract i e0), .int .i64 i] 68)
  have A4 := hid hal.1
  have A7 := hid hal.2.1
  have AB := hid hal.2.2.2
  rw [HBI.out, word_or] at hw
  clear hk hl hu hn hT0 hkk hse hal c1 c2 c3 c4
  cases hlt : letB (t[i].toNat : Int)
  case true =>
    clear hw
    go_enter Tryd.func53, Tryd.ntmps53
    go_wp2_with (first
      | (go_at_call 79; refine (spec_Letter _ _).mono ?_; rintro e w' ⟨rfl, rfl⟩)
      | (go_at_call 22; refine (spec_Digit _ _).mono ?_; rintro e w' ⟨rfl, rfl⟩)
      | (go_at_call 80; refine (HEN.out _).mono ?_; rintro e w' ⟨rfl, rfl⟩))
    refine (HK.out _).mono ?_
    rintro e w1 ⟨rfl, hb1⟩
    have P1 := hid (heap_liftT A4.out hb1)
    have Q1 := hid (heap_liftT A7.out hb1)
    have B1 := hid (AB.out.trans (hb1.mono AB.out.size))
    clear hb1
    go_wp2_with fail
    refine (HL.out _).mono ?_
    rintro e w2 ⟨rfl, hb2⟩
    have P2 := hid (heap_liftT P1.out hb2)
    have Q2 := hid (heap_liftT Q1.out hb2)
    have B2 := hid (B1.out.trans (hb2.mono B1.out.size))
    clear hb2
    go_wp2_with fail
    refine (HU.out _).mono ?_
    rintro e w3 ⟨rfl, hb3⟩
    have P3 := hid (heap_liftT P2.out hb3)
    have Q3 := hid (heap_liftT Q2.out hb3)
    have B3 := hid (B2.out.trans (hb3.mono B2.out.size))
    clear hb3
    have z0 := heap_free Q3.out 0
    have r0 := heap_cell Q3.out (j := 0) rfl
    have PS := hid (show (w3.setCell ⟨(w.heap.size + 1), 0, none⟩ (.int .i64 2)).heap[w.heap.size]? = some (.cells #[.int .i64 0, .string ⟨#[]⟩, .int .i64 0] 68 (0, 0)) from (heap_set_ne0 _ (by omega)).trans P3.out)
    have QS := hid (show (w3.setCell ⟨(w.heap.size + 1), 0, none⟩ (.int .i64 2)).heap[(w.heap.size + 1)]? = some (.cells #[.int .i64 2, .string (t.extract i e0), .int .i64 i] 68 (0, 0)) from heap_setCell_at w3 (w.heap.size + 1) 0 (.int .i64 2) Q3.out)
    have BS := hid (B3.out.setCell (p := ⟨(w.heap.size + 1), 0, none⟩) (by simp) (.int .i64 2))
    go_wp2_with fail
    clear z0 r0
    refine (HN.out _).mono ?_
    rintro e w4 ⟨rfl, rfl⟩
    have y0 := heap_cell QS.out (j := 0) rfl
    have y1 := heap_cell QS.out (j := 1) rfl
    have y2 := heap_cell QS.out (j := 2) rfl
    have x0 := heap_cell PS.out (j := 0) rfl
    have f0 := heap_free PS.out 0
    have x1 := heap_cell PS.out (j := 1) rfl
    have f1 := heap_free PS.out 1
    have x2 := heap_cell PS.out (j := 2) rfl
    have f2 := heap_free PS.out 2
    have HS := hid (set3 PS.out (.int .i64 2) (.string (t.extract i e0)) (.int .i64 i))
    have BZ := hid (((BS.out.setCell (p := ⟨w.heap.size, 0, none⟩) (by simp) (.int .i64 2)).setCell (p := ⟨w.heap.size, 1, none⟩) (by simp) (.string (t.extract i e0))).setCell (p := ⟨w.heap.size, 2, none⟩) (by simp) (.int .i64 i))
    go_wp2_with fail
    have hc0 := heap_cell HS.out (j := 0) rfl
    have hc1 := heap_cell HS.out (j := 1) rfl
    have hc2 := heap_cell HS.out (j := 2) rfl
    refine bodyPost_ret (v := .agg #[.int .i64 2, .string (t.extract i e0), .int .i64 i]) (by simp [results, Tryd.results53, go_sem, hc0, hc1, hc2]) rfl ?_
    exact GivesTok.mk' HT.out rfl BZ.out

  case false =>
    have hdg : digB (t[i].toNat : Int) = true := by rw [hlt] at hw; simpa using hw
    clear hw
    go_enter Tryd.func53, Tryd.ntmps53
    go_wp2_with (first
      | (go_at_call 79; refine (spec_Letter _ _).mono ?_; rintro e w' ⟨rfl, rfl⟩)
      | (go_at_call 22; refine (spec_Digit _ _).mono ?_; rintro e w' ⟨rfl, rfl⟩)
      | (go_at_call 80; refine (HEN.out _).mono ?_; rintro e w' ⟨rfl, rfl⟩))
    refine (HK.out _).mono ?_
    rintro e w1 ⟨rfl, hb1⟩
    have P1 := hid (heap_liftT A4.out hb1)
    have Q1 := hid (heap_liftT A7.out hb1)
    have B1 := hid (AB.out.trans (hb1.mono AB.out.size))
    clear hb1
    go_wp2_with fail
    refine (HL.out _).mono ?_
    rintro e w2 ⟨rfl, hb2⟩
    have P2 := hid (heap_liftT P1.out hb2)
    have Q2 := hid (heap_liftT Q1.out hb2)
    have B2 := hid (B1.out.trans (hb2.mono B1.out.size))
    clear hb2
    go_wp2_with fail
    refine (HU.out _).mono ?_
    rintro e w3 ⟨rfl, hb3⟩
    have P3 := hid (heap_liftT P2.out hb3)
    have Q3 := hid (heap_liftT Q2.out hb3)
    have B3 := hid (B2.out.trans (hb3.mono B2.out.size))
    clear hb3
    have z0 := heap_free Q3.out 0
    have r0 := heap_cell Q3.out (j := 0) rfl
    have PS := hid (show (w3.setCell ⟨(w.heap.size + 1), 0, none⟩ (.int .i64 2)).heap[w.heap.size]? = some (.cells #[.int .i64 0, .string ⟨#[]⟩, .int .i64 0] 68 (0, 0)) from (heap_set_ne0 _ (by omega)).trans P3.out)
    have QS := hid (show (w3.setCell ⟨(w.heap.size + 1), 0, none⟩ (.int .i64 2)).heap[(w.heap.size + 1)]? = some (.cells #[.int .i64 2, .string (t.extract i e0), .int .i64 i] 68 (0, 0)) from heap_setCell_at w3 (w.heap.size + 1) 0 (.int .i64 2) Q3.out)
    have BS := hid (B3.out.setCell (p := ⟨(w.heap.size + 1), 0, none⟩) (by simp) (.int .i64 2))
    go_wp2_with fail
    clear z0 r0
    refine (HN.out _).mono ?_
    rintro e w4 ⟨rfl, rfl⟩
    have y0 := heap_cell QS.out (j := 0) rfl
    have y1 := heap_cell QS.out (j := 1) rfl
    have y2 := heap_cell QS.out (j := 2) rfl
    have x0 := heap_cell PS.out (j := 0) rfl
    have f0 := heap_free PS.out 0
    have x1 := heap_cell PS.out (j := 1) rfl
    have f1 := heap_free PS.out 1
    have x2 := heap_cell PS.out (j := 2) rfl
    have f2 := heap_free PS.out 2
    have HS := hid (set3 PS.out (.int .i64 2) (.string (t.extract i e0)) (.int .i64 i))
    have BZ := hid (((BS.out.setCell (p := ⟨w.heap.size, 0, none⟩) (by simp) (.int .i64 2)).setCell (p := ⟨w.heap.size, 1, none⟩) (by simp) (.string (t.extract i e0))).setCell (p := ⟨w.heap.size, 2, none⟩) (by simp) (.int .i64 i))
    go_wp2_with fail
    have hc0 := heap_cell HS.out (j := 0) rfl
    have hc1 := heap_cell HS.out (j := 1) rfl
    have hc2 := heap_cell HS.out (j := 2) rfl
    refine bodyPost_ret (v := .agg #[.int .i64 2, .string (t.extract i e0), .int .i64 i]) (by simp [results, Tryd.results53, go_sem, hc0, hc1, hc2]) rfl ?_
    exact GivesTok.mk' HT.out rfl BZ.out

set_option maxRecDepth 100000 in
set_option maxHeartbeats 1000000 in
theorem spec_Token_nu (t : ByteArray) (i : Nat) (hi : i < t.size) (hs : t.size ≤ 1048576) (hw : wordB (byteAt t i) = true) (c1 : isKw (t.extract i (wEnd t i)) = false) (c2 : isLowerB (t.extract i (wEnd t i)) = false) (c3 : isUpperB (t.extract i (wEnd t i)) = false) (c4 : numB (t.extract i (wEnd t i)) = true) (w : World) :
    Calls Tryd.prog 53 #[.string t, .int .i64 i] w (GivesTok t i w) := by
  have HBI := hid (byteAt_eq hi)
  have hb1 := wEnd_lt hi hw
  have hb2 := (wEnd_bound (Nat.le_of_lt hi)).2
  have HEN := hid (fun W => spec_End t i (Nat.le_of_lt hi) hs W)
  have hT0 : tkAt t i = if tkKind (t.extract i (wEnd t i)) = 0 then (0, i) else (tkKind (t.extract i (wEnd t i)), wEnd t i) := by unfold tkAt; rw [if_pos hw]
  generalize wEnd t i = e0 at hb1 hb2 HEN hT0 c1 c2 c3 c4
  have hse : (t.extract i e0).size = e0 - i := by rw [ByteArray.size_extract]; omega
  have hkk : tkKind (t.extract i e0) = 4 := by unfold tkKind; simp [c1, c2, c3, c4]
  have HT := hid (show tkAt t i = (4, e0) by rw [hT0, hkk]; rfl)
  have hk := fun W => spec_IsKeyword (t.extract i e0) W
  have hl := fun W => spec_IsLower (t.extract i e0) W
  have hu := fun W => spec_IsUpper (t.extract i e0) W
  have hn := fun W => spec_Number (t.extract i e0) (by omega) (by omega) W
  rw [c1] at hk
  rw [c2] at hl
  rw [c3] at hu
  rw [c4] at hn
  have HK := hid hk
  have HL := hid hl
  have HU := hid hu
  have HN := hid hn
  have hle : i ≤ e0 := Nat.le_of_lt hb1
  have hle2 : (i : Int) ≤ (e0 : Int) := by omega
  have hle3 : (e0 : Int) ≤ (t.size : Int) := by omega
  have hal := alloc2 w (.cells #[.int .i64 0, .string ⟨#[]⟩, .int .i64 0] 68) (.cells #[.int .i64 0, .string (t.extract i e0), .int .i64 i] 68)
  have A4 := hid hal.1
  have A7 := hid hal.2.1
  have AB := hid hal.2.2.2
  rw [HBI.out, word_or] at hw
  clear hk hl hu hn hT0 hkk hse hal c1 c2 c3 c4
  cases hlt : letB (t[i].toNat : Int)
  case true =>
    clear hw
    go_enter Tryd.func53, Tryd.ntmps53
    go_wp2_with (first
      | (go_at_call 79; refine (spec_Letter _ _).mono ?_; rintro e w' ⟨rfl, rfl⟩)
      | (go_at_call 22; refine (spec_Digit _ _).mono ?_; rintro e w' ⟨rfl, rfl⟩)
      | (go_at_call 80; refine (HEN.out _).mono ?_; rintro e w' ⟨rfl, rfl⟩))
    refine (HK.out _).mono ?_
    rintro e w1 ⟨rfl, hb1⟩
    have P1 := hid (heap_liftT A4.out hb1)
    have Q1 := hid (heap_liftT A7.out hb1)
    have B1 := hid (AB.out.trans (hb1.mono AB.out.size))
    clear hb1
    go_wp2_with fail
    refine (HL.out _).mono ?_
    rintro e w2 ⟨rfl, hb2⟩
    have P2 := hid (heap_liftT P1.out hb2)
    have Q2 := hid (heap_liftT Q1.out hb2)
    have B2 := hid (B1.out.trans (hb2.mono B1.out.size))
    clear hb2
    go_wp2_with fail
    refine (HU.out _).mono ?_
    rintro e w3 ⟨rfl, hb3⟩
    have P3 := hid (heap_liftT P2.out hb3)
    have Q3 := hid (heap_liftT Q2.out hb3)
    have B3 := hid (B2.out.trans (hb3.mono B2.out.size))
    clear hb3
    go_wp2_with fail
    refine (HN.out _).mono ?_
    rintro e w4 ⟨rfl, rfl⟩
    have z0 := heap_free Q3.out 0
    have r0 := heap_cell Q3.out (j := 0) rfl
    have PS := hid (show (w3.setCell ⟨(w.heap.size + 1), 0, none⟩ (.int .i64 4)).heap[w.heap.size]? = some (.cells #[.int .i64 0, .string ⟨#[]⟩, .int .i64 0] 68 (0, 0)) from (heap_set_ne0 _ (by omega)).trans P3.out)
    have QS := hid (show (w3.setCell ⟨(w.heap.size + 1), 0, none⟩ (.int .i64 4)).heap[(w.heap.size + 1)]? = some (.cells #[.int .i64 4, .string (t.extract i e0), .int .i64 i] 68 (0, 0)) from heap_setCell_at w3 (w.heap.size + 1) 0 (.int .i64 4) Q3.out)
    have BS := hid (B3.out.setCell (p := ⟨(w.heap.size + 1), 0, none⟩) (by simp) (.int .i64 4))
    have y0 := heap_cell QS.out (j := 0) rfl
    have y1 := heap_cell QS.out (j := 1) rfl
    have y2 := heap_cell QS.out (j := 2) rfl
    have x0 := heap_cell PS.out (j := 0) rfl
    have f0 := heap_free PS.out 0
    have x1 := heap_cell PS.out (j := 1) rfl
    have f1 := heap_free PS.out 1
    have x2 := heap_cell PS.out (j := 2) rfl
    have f2 := heap_free PS.out 2
    have HS := hid (set3 PS.out (.int .i64 4) (.string (t.extract i e0)) (.int .i64 i))
    have BZ := hid (((BS.out.setCell (p := ⟨w.heap.size, 0, none⟩) (by simp) (.int .i64 4)).setCell (p := ⟨w.heap.size, 1, none⟩) (by simp) (.string (t.extract i e0))).setCell (p := ⟨w.heap.size, 2, none⟩) (by simp) (.int .i64 i))
    go_wp2_with fail
    have hc0 := heap_cell HS.out (j := 0) rfl
    have hc1 := heap_cell HS.out (j := 1) rfl
    have hc2 := heap_cell HS.out (j := 2) rfl
    refine bodyPost_ret (v := .agg #[.int .i64 4, .string (t.extract i e0), .int .i64 i]) (by simp [results, Tryd.results53, go_sem, hc0, hc1, hc2]) rfl ?_
    exact GivesTok.mk' HT.out rfl BZ.out

  case false =>
    have hdg : digB (t[i].toNat : Int) = true := by rw [hlt] at hw; simpa using hw
    clear hw
    go_enter Tryd.func53, Tryd.ntmps53
    go_wp2_with (first
      | (go_at_call 79; refine (spec_Letter _ _).mono ?_; rintro e w' ⟨rfl, rfl⟩)
      | (go_at_call 22; refine (spec_Digit _ _).mono ?_; rintro e w' ⟨rfl, rfl⟩)
      | (go_at_call 80; refine (HEN.out _).mono ?_; rintro e w' ⟨rfl, rfl⟩))
    refine (HK.out _).mono ?_
    rintro e w1 ⟨rfl, hb1⟩
    have P1 := hid (heap_liftT A4.out hb1)
    have Q1 := hid (heap_liftT A7.out hb1)
    have B1 := hid (AB.out.trans (hb1.mono AB.out.size))
    clear hb1
    go_wp2_with fail
    refine (HL.out _).mono ?_
    rintro e w2 ⟨rfl, hb2⟩
    have P2 := hid (heap_liftT P1.out hb2)
    have Q2 := hid (heap_liftT Q1.out hb2)
    have B2 := hid (B1.out.trans (hb2.mono B1.out.size))
    clear hb2
    go_wp2_with fail
    refine (HU.out _).mono ?_
    rintro e w3 ⟨rfl, hb3⟩
    have P3 := hid (heap_liftT P2.out hb3)
    have Q3 := hid (heap_liftT Q2.out hb3)
    have B3 := hid (B2.out.trans (hb3.mono B2.out.size))
    clear hb3
    go_wp2_with fail
    refine (HN.out _).mono ?_
    rintro e w4 ⟨rfl, rfl⟩
    have z0 := heap_free Q3.out 0
    have r0 := heap_cell Q3.out (j := 0) rfl
    have PS := hid (show (w3.setCell ⟨(w.heap.size + 1), 0, none⟩ (.int .i64 4)).heap[w.heap.size]? = some (.cells #[.int .i64 0, .string ⟨#[]⟩, .int .i64 0] 68 (0, 0)) from (heap_set_ne0 _ (by omega)).trans P3.out)
    have QS := hid (show (w3.setCell ⟨(w.heap.size + 1), 0, none⟩ (.int .i64 4)).heap[(w.heap.size + 1)]? = some (.cells #[.int .i64 4, .string (t.extract i e0), .int .i64 i] 68 (0, 0)) from heap_setCell_at w3 (w.heap.size + 1) 0 (.int .i64 4) Q3.out)
    have BS := hid (B3.out.setCell (p := ⟨(w.heap.size + 1), 0, none⟩) (by simp) (.int .i64 4))
    have y0 := heap_cell QS.out (j := 0) rfl
    have y1 := heap_cell QS.out (j := 1) rfl
    have y2 := heap_cell QS.out (j := 2) rfl
    have x0 := heap_cell PS.out (j := 0) rfl
    have f0 := heap_free PS.out 0
    have x1 := heap_cell PS.out (j := 1) rfl
    have f1 := heap_free PS.out 1
    have x2 := heap_cell PS.out (j := 2) rfl
    have f2 := heap_free PS.out 2
    have HS := hid (set3 PS.out (.int .i64 4) (.string (t.extract i e0)) (.int .i64 i))
    have BZ := hid (((BS.out.setCell (p := ⟨w.heap.size, 0, none⟩) (by simp) (.int .i64 4)).setCell (p := ⟨w.heap.size, 1, none⟩) (by simp) (.string (t.extract i e0))).setCell (p := ⟨w.heap.size, 2, none⟩) (by simp) (.int .i64 i))
    go_wp2_with fail
    have hc0 := heap_cell HS.out (j := 0) rfl
    have hc1 := heap_cell HS.out (j := 1) rfl
    have hc2 := heap_cell HS.out (j := 2) rfl
    refine bodyPost_ret (v := .agg #[.int .i64 4, .string (t.extract i e0), .int .i64 i]) (by simp [results, Tryd.results53, go_sem, hc0, hc1, hc2]) rfl ?_
    exact GivesTok.mk' HT.out rfl BZ.out

set_option maxRecDepth 100000 in
set_option maxHeartbeats 1000000 in
theorem spec_Token_no (t : ByteArray) (i : Nat) (hi : i < t.size) (hs : t.size ≤ 1048576) (hw : wordB (byteAt t i) = true) (c1 : isKw (t.extract i (wEnd t i)) = false) (c2 : isLowerB (t.extract i (wEnd t i)) = false) (c3 : isUpperB (t.extract i (wEnd t i)) = false) (c4 : numB (t.extract i (wEnd t i)) = false) (w : World) :
    Calls Tryd.prog 53 #[.string t, .int .i64 i] w (GivesTok t i w) := by
  have HBI := hid (byteAt_eq hi)
  have hb1 := wEnd_lt hi hw
  have hb2 := (wEnd_bound (Nat.le_of_lt hi)).2
  have HEN := hid (fun W => spec_End t i (Nat.le_of_lt hi) hs W)
  have hT0 : tkAt t i = if tkKind (t.extract i (wEnd t i)) = 0 then (0, i) else (tkKind (t.extract i (wEnd t i)), wEnd t i) := by unfold tkAt; rw [if_pos hw]
  generalize wEnd t i = e0 at hb1 hb2 HEN hT0 c1 c2 c3 c4
  have hse : (t.extract i e0).size = e0 - i := by rw [ByteArray.size_extract]; omega
  have hkk : tkKind (t.extract i e0) = 0 := by unfold tkKind; simp [c1, c2, c3, c4]
  have HT := hid (show tkAt t i = (0, i) by rw [hT0, hkk]; rfl)
  have hk := fun W => spec_IsKeyword (t.extract i e0) W
  have hl := fun W => spec_IsLower (t.extract i e0) W
  have hu := fun W => spec_IsUpper (t.extract i e0) W
  have hn := fun W => spec_Number (t.extract i e0) (by omega) (by omega) W
  rw [c1] at hk
  rw [c2] at hl
  rw [c3] at hu
  rw [c4] at hn
  have HK := hid hk
  have HL := hid hl
  have HU := hid hu
  have HN := hid hn
  have hle : i ≤ e0 := Nat.le_of_lt hb1
  have hle2 : (i : Int) ≤ (e0 : Int) := by omega
  have hle3 : (e0 : Int) ≤ (t.size : Int) := by omega
  have hal := alloc2 w (.cells #[.int .i64 0, .string ⟨#[]⟩, .int .i64 0] 68) (.cells #[.int .i64 0, .string (t.extract i e0), .int .i64 i] 68)
  have A4 := hid hal.1
  have A7 := hid hal.2.1
  have AB := hid hal.2.2.2
  rw [HBI.out, word_or] at hw
  clear hk hl hu hn hT0 hkk hse hal c1 c2 c3 c4
  cases hlt : letB (t[i].toNat : Int)
  case true =>
    clear hw
    go_enter Tryd.func53, Tryd.ntmps53
    go_wp2_with (first
      | (go_at_call 79; refine (spec_Letter _ _).mono ?_; rintro e w' ⟨rfl, rfl⟩)
      | (go_at_call 22; refine (spec_Digit _ _).mono ?_; rintro e w' ⟨rfl, rfl⟩)
      | (go_at_call 80; refine (HEN.out _).mono ?_; rintro e w' ⟨rfl, rfl⟩))
    refine (HK.out _).mono ?_
    rintro e w1 ⟨rfl, hb1⟩
    have P1 := hid (heap_liftT A4.out hb1)
    have Q1 := hid (heap_liftT A7.out hb1)
    have B1 := hid (AB.out.trans (hb1.mono AB.out.size))
    clear hb1
    go_wp2_with fail
    refine (HL.out _).mono ?_
    rintro e w2 ⟨rfl, hb2⟩
    have P2 := hid (heap_liftT P1.out hb2)
    have Q2 := hid (heap_liftT Q1.out hb2)
    have B2 := hid (B1.out.trans (hb2.mono B1.out.size))
    clear hb2
    go_wp2_with fail
    refine (HU.out _).mono ?_
    rintro e w3 ⟨rfl, hb3⟩
    have P3 := hid (heap_liftT P2.out hb3)
    have Q3 := hid (heap_liftT Q2.out hb3)
    have B3 := hid (B2.out.trans (hb3.mono B2.out.size))
    clear hb3
    go_wp2_with fail
    refine (HN.out _).mono ?_
    rintro e w4 ⟨rfl, rfl⟩
    have y0 := heap_cell Q3.out (j := 0) rfl
    have y1 := heap_cell Q3.out (j := 1) rfl
    have y2 := heap_cell Q3.out (j := 2) rfl
    have x0 := heap_cell P3.out (j := 0) rfl
    have f0 := heap_free P3.out 0
    have x1 := heap_cell P3.out (j := 1) rfl
    have f1 := heap_free P3.out 1
    have x2 := heap_cell P3.out (j := 2) rfl
    have f2 := heap_free P3.out 2
    have HS := hid (set3 P3.out (.int .i64 0) (.string (t.extract i e0)) (.int .i64 i))
    have BZ := hid (((B3.out.setCell (p := ⟨w.heap.size, 0, none⟩) (by simp) (.int .i64 0)).setCell (p := ⟨w.heap.size, 1, none⟩) (by simp) (.string (t.extract i e0))).setCell (p := ⟨w.heap.size, 2, none⟩) (by simp) (.int .i64 i))
    go_wp2_with fail
    have hc0 := heap_cell HS.out (j := 0) rfl
    have hc1 := heap_cell HS.out (j := 1) rfl
    have hc2 := heap_cell HS.out (j := 2) rfl
    refine bodyPost_ret (v := .agg #[.int .i64 0, .string (t.extract i e0), .int .i64 i]) (by simp [results, Tryd.results53, go_sem, hc0, hc1, hc2]) rfl ?_
    exact GivesTok.no HT.out BZ.out

  case false =>
    have hdg : digB (t[i].toNat : Int) = true := by rw [hlt] at hw; simpa using hw
    clear hw
    go_enter Tryd.func53, Tryd.ntmps53
    go_wp2_with (first
      | (go_at_call 79; refine (spec_Letter _ _).mono ?_; rintro e w' ⟨rfl, rfl⟩)
      | (go_at_call 22; refine (spec_Digit _ _).mono ?_; rintro e w' ⟨rfl, rfl⟩)
      | (go_at_call 80; refine (HEN.out _).mono ?_; rintro e w' ⟨rfl, rfl⟩))
    refine (HK.out _).mono ?_
    rintro e w1 ⟨rfl, hb1⟩
    have P1 := hid (heap_liftT A4.out hb1)
    have Q1 := hid (heap_liftT A7.out hb1)
    have B1 := hid (AB.out.trans (hb1.mono AB.out.size))
    clear hb1
    go_wp2_with fail
    refine (HL.out _).mono ?_
    rintro e w2 ⟨rfl, hb2⟩
    have P2 := hid (heap_liftT P1.out hb2)
    have Q2 := hid (heap_liftT Q1.out hb2)
    have B2 := hid (B1.out.trans (hb2.mono B1.out.size))
    clear hb2
    go_wp2_with fail
    refine (HU.out _).mono ?_
    rintro e w3 ⟨rfl, hb3⟩
    have P3 := hid (heap_liftT P2.out hb3)
    have Q3 := hid (heap_liftT Q2.out hb3)
    have B3 := hid (B2.out.trans (hb3.mono B2.out.size))
    clear hb3
    go_wp2_with fail
    refine (HN.out _).mono ?_
    rintro e w4 ⟨rfl, rfl⟩
    have y0 := heap_cell Q3.out (j := 0) rfl
    have y1 := heap_cell Q3.out (j := 1) rfl
    have y2 := heap_cell Q3.out (j := 2) rfl
    have x0 := heap_cell P3.out (j := 0) rfl
    have f0 := heap_free P3.out 0
    have x1 := heap_cell P3.out (j := 1) rfl
    have f1 := heap_free P3.out 1
    have x2 := heap_cell P3.out (j := 2) rfl
    have f2 := heap_free P3.out 2
    have HS := hid (set3 P3.out (.int .i64 0) (.string (t.extract i e0)) (.int .i64 i))
    have BZ := hid (((B3.out.setCell (p := ⟨w.heap.size, 0, none⟩) (by simp) (.int .i64 0)).setCell (p := ⟨w.heap.size, 1, none⟩) (by simp) (.string (t.extract i e0))).setCell (p := ⟨w.heap.size, 2, none⟩) (by simp) (.int .i64 i))
    go_wp2_with fail
    have hc0 := heap_cell HS.out (j := 0) rfl
    have hc1 := heap_cell HS.out (j := 1) rfl
    have hc2 := heap_cell HS.out (j := 2) rfl
    refine bodyPost_ret (v := .agg #[.int .i64 0, .string (t.extract i e0), .int .i64 i]) (by simp [results, Tryd.results53, go_sem, hc0, hc1, hc2]) rfl ?_
    exact GivesTok.no HT.out BZ.out

end Go.Proofs.YtikhofcjkcbpbaaDoor
