/- Walks of the laws' helpers: the size of Type. No condition. -/
import Derived.Test.YtikhofcjkcbpbaaGreatDoorDTy
import Derived.Test.YtikhofcjkcbpbaaGreatDoorSzSc
import Derived.Lib.QuietBelow
namespace Go.Proofs.YtikhofcjkcbpbaaGreatDoor
open Go.ChangeShapes Go.WideShapes Go.ChangeAt Go.RowKit
open Go.Sort (grow)
set_option linter.unusedVariables false

def SzTy (N : Nat) : Prop := ∀ (k : Int) (n : ByteArray) (ks : List Ty) (aks : Option Addr) (cks : Nat) (left : Int) (w : World), Ty.bulk (Ty.mk k n ks) < N → RdS w (Ty.d (Ty.mk k n ks)) [.int .i64 k, .string n, .slice aks ks.length cks] → 0 ≤ left → left ≤ 1048576 →
  Calls Tryz.prog 15 #[.agg #[.int .i64 k, .string n, .slice aks ks.length cks], .int .i64 left] w fun e w' => e = .returned (.int .i64 (purse left (Ty.bulk (Ty.mk k n ks)))) ∧ Below w.heap.size w w'
def SzTys (N : Nat) : Prop := ∀ (ts : List Ty) (a : Option Addr) (c : Nat) (left : Int) (w : World), Ty.bulks ts < N → RdL w (Ty.ds ts) (.slice a ts.length c) → 0 ≤ left → left ≤ 1048576 →
  Calls Tryz.prog 44 #[.slice a ts.length c, .int .i64 left] w fun e w' => e = .returned (.int .i64 (purse left (Ty.bulks ts))) ∧ Below w.heap.size w w'
theorem szTy_step (N : Nat) (ih : SzTys N) : SzTy N := by
  intro k n ks aks cks left w hN hr h0 h1
  have hbk : Ty.bulk (Ty.mk k n ks) = n.size + Ty.bulks ks := rfl
  obtain ⟨⟨lok, hik⟩, zn, hks⟩ := hr.fTy
  by_cases hp0 : ((n.size : Nat) : Int) ≤ left
  case neg =>
    have HBK := hid hbk
    have HX0 := hid ((Boxes.nil w).alloc #[.int .i64 k, .string n, .slice aks ks.length cks] 24 (0, 0))
    have hbw0 : Below w.heap.size w (w.alloc (.cells #[.int .i64 k, .string n, .slice aks ks.length cks] 24)) := (Below.refl _ _).alloc (Nat.le_refl _) _
    have HBW := hid hbw0
    clear hr hbk hbw0 ih hks
    go_enter Tryz.func15, Tryz.ntmps15
    go_wp2_with fail
    go_ret
    exact ⟨ret_int (by rw [purse_no (by have := HBK.out; omega)]), HBW.out⟩
  case pos =>
    skip
    have hc1 := fun (W : World) (hb : Below w.heap.size w W) => (ih ks aks cks (left - n.size) W (by omega) (hks.below hb) (by omega) (by omega))
    by_cases hp1 : ((Ty.bulks ks : Nat) : Int) ≤ left - n.size
    case neg =>
      rw [purse_no hp1] at hc1
      have HC1 := hid hc1
      have HBK := hid hbk
      have HX0 := hid ((Boxes.nil w).alloc #[.int .i64 k, .string n, .slice aks ks.length cks] 24 (0, 0))
      have hbw0 : Below w.heap.size w (w.alloc (.cells #[.int .i64 k, .string n, .slice aks ks.length cks] 24)) := (Below.refl _ _).alloc (Nat.le_refl _) _
      have HBW := hid hbw0
      clear hr hbk hbw0 hc1 ih hks
      go_enter Tryz.func15, Tryz.ntmps15
      go_wp2_with fail
      refine (HC1.out _ HBW.out).mono ?_
      rintro e w1 ⟨rfl, hb1⟩
      have hbw1 := HBW.out.trans (hb1.mono (by simp))
      have hx1 := HX0.out.below hb1
      have HX1 := hid hx1
      clear hx1 hb1 HC1
      go_wp2_with fail
      go_ret
      exact ⟨ret_int (by rw [purse_no (by have := HBK.out; omega)]), hbw1⟩
    case pos =>
      rw [purse_ok hp1] at hc1
      have HC1 := hid hc1
      have HBK := hid hbk
      have HX0 := hid ((Boxes.nil w).alloc #[.int .i64 k, .string n, .slice aks ks.length cks] 24 (0, 0))
      have hbw0 : Below w.heap.size w (w.alloc (.cells #[.int .i64 k, .string n, .slice aks ks.length cks] 24)) := (Below.refl _ _).alloc (Nat.le_refl _) _
      have HBW := hid hbw0
      clear hr hbk hbw0 hc1 ih hks
      go_enter Tryz.func15, Tryz.ntmps15
      go_wp2_with fail
      refine (HC1.out _ HBW.out).mono ?_
      rintro e w1 ⟨rfl, hb1⟩
      have hbw1 := HBW.out.trans (hb1.mono (by simp))
      have hx1 := HX0.out.below hb1
      have HX1 := hid hx1
      clear hx1 hb1 HC1
      go_wp2_with fail
      go_ret
      exact ⟨ret_int (by rw [purse_ok (by have := HBK.out; omega)]; have := HBK.out; omega), hbw1⟩

theorem szTys_step (N : Nat) (ih : SzTy N) : SzTys (N + 1) := by
  intro ts a c left w hN hr h0 h1
  obtain ⟨_, _, e, h2, h3, h4⟩ := hr.eTy
  simp only [Value.slice.injEq, true_and] at e
  obtain ⟨rfl, rfl⟩ := e
  have hl := Ty.bulks_length ts
  have IH := hid ih
  have H4 := hid h4
  clear hr h4 ih
  by_cases hs : left < ts.length
  · rw [purse_no (by omega)]
    go_enter Tryz.func44, Tryz.ntmps44
    go_wp2_with fail
    go_ret
    exact ⟨rfl, Below.refl _ _⟩
  · have hd0 : decide (left - (ts.length : Int) < 0) = false := by simp; omega
    go_enter Tryz.func44, Tryz.ntmps44
    go_wp2_with fail
    go_loopw [1, 5] (fun l i wr => ∃ (j : Nat) (L : Int), j ≤ ts.length ∧ i = .int .i64 j ∧ l = .int .i64 L ∧ Hid (L + (Ty.bulks (ts.take j) + ts.length : Nat) = left + j) ∧ 0 ≤ L ∧ L ≤ 1048576 ∧ Below w.heap.size w wr) (fun _ i _ => ts.length - (intOf i).toNat)
    case atStart => exact ⟨0, left - ts.length, by omega, rfl, rfl, by show _ = _; simp [Ty.bulks], by omega, by omega, Below.refl _ _⟩
    case round =>
      obtain ⟨j, L, hj, rfl, rfl, HL, hL0, hL1, hb⟩ := hrel
      by_cases hlt : j < ts.length
      · obtain ⟨b, o, rfl, hbl, hall⟩ := H4.out (by omega)
        obtain ⟨t, ht⟩ : ∃ t, ts[j]? = some t := ⟨_, List.getElem?_eq_getElem hlt⟩
        obtain ⟨k1, n1, ks1⟩ := t
        obtain ⟨aks1, cks1, q0, q1, q2, hrk⟩ := hall j k1 n1 ks1 ht
        clear hall H4
        have d0 := (hb.cell (p := ⟨b, o + j * 3, none⟩) hbl).trans q0
        have d1 := (hb.cell (p := ⟨b, o + j * 3 + 1, none⟩) hbl).trans q1
        have d2 := (hb.cell (p := ⟨b, o + j * 3 + 2, none⟩) hbl).trans q2
        have HT := hid ht
        have hc := IH.out k1 n1 ks1 aks1 cks1 L wr (by have := Ty.bulk_get ts j _ ht; omega) (hrk.below hb) hL0 hL1
        have hst := Ty.bulks_take ts j _ ht
        have hle := Ty.bulks_le ts (j + 1)
        by_cases hp : ((Ty.bulk (Ty.mk k1 n1 ks1) : Nat) : Int) ≤ L
        · rw [purse_ok hp] at hc
          have HC := hid hc
          have HS := hid hst
          clear ht hrk q0 q1 q2 hc hst
          go_wp2_with fail
          refine HC.out.mono ?_
          clear HC
          rintro e w1 ⟨rfl, hb1⟩
          go_wp2_with fail
          go_roundw
          case rel => exact ⟨j + 1, _, by omega, by go_num, rfl, by show _ = _; have := HL.out; have := HS.out; omega, by omega, by omega, hb.trans (hb1.mono hb.size)⟩
          case measure => simp [intOf]; omega
        · rw [purse_no hp] at hc
          have HC := hid hc
          have HS := hid hst
          clear ht hrk q0 q1 q2 hc hst
          go_wp2_with fail
          refine HC.out.mono ?_
          clear HC
          rintro e w1 ⟨rfl, hb1⟩
          go_wp2_with fail
          go_ret
          exact ⟨ret_int (by rw [purse_no (by have := HL.out; have := HS.out; omega)]), hb.trans (hb1.mono hb.size)⟩
      · obtain rfl : j = ts.length := by omega
        rw [List.take_length] at HL
        go_wp2_with fail
        go_ret
        exact ⟨ret_int (by rw [purse_ok (by have := HL.out; omega)]; have := HL.out; omega), hb⟩

theorem szTy_all : ∀ M, SzTy M ∧ SzTys M
  | 0 => ⟨fun _ _ _ _ _ _ _ h => absurd h (by omega), fun _ _ _ _ _ h => absurd h (by omega)⟩
  | M + 1 => by
    have h := szTy_all M
    have h2 := szTys_step M h.1
    exact ⟨szTy_step (M + 1) h2, h2⟩
theorem szTy (k : Int) (n : ByteArray) (ks : List Ty) (aks : Option Addr) (cks : Nat) (left : Int) (w : World) (hr : RdS w (Ty.d (Ty.mk k n ks)) [.int .i64 k, .string n, .slice aks ks.length cks]) (h0 : 0 ≤ left) (h1 : left ≤ 1048576) :
    Calls Tryz.prog 15 #[.agg #[.int .i64 k, .string n, .slice aks ks.length cks], .int .i64 left] w fun e w' => e = .returned (.int .i64 (purse left (Ty.bulk (Ty.mk k n ks)))) ∧ Below w.heap.size w w' :=
  (szTy_all (Ty.bulk (Ty.mk k n ks) + 1)).1 k n ks aks cks left w (by omega) hr h0 h1
theorem szTys (ts : List Ty) (a : Option Addr) (c : Nat) (left : Int) (w : World) (hr : RdL w (Ty.ds ts) (.slice a ts.length c)) (h0 : 0 ≤ left) (h1 : left ≤ 1048576) :
    Calls Tryz.prog 44 #[.slice a ts.length c, .int .i64 left] w fun e w' => e = .returned (.int .i64 (purse left (Ty.bulks ts))) ∧ Below w.heap.size w w' :=
  (szTy_all (Ty.bulks ts + 1)).2 ts a c left w (by omega) hr h0 h1

end Go.Proofs.YtikhofcjkcbpbaaGreatDoor
