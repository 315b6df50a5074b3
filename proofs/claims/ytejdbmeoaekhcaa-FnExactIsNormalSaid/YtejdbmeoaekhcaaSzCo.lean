/- Walks of the laws' helpers: the size of Core. No condition. -/
import Derived.Test.YtejdbmeoaekhcaaDCo
import Derived.Test.YtejdbmeoaekhcaaSzSc
import Derived.Lib.QuietBelow
namespace Go.Proofs.Ytejdbmeoaekhcaa
open Go.ChangeShapes Go.WideShapes Go.ChangeAt Go.RowKit
open Go.Sort (grow)
set_option linter.unusedVariables false

def SzCo (N : Nat) : Prop := ∀ (k : Int) (v : Int) (ds : List Int) (ks : List Co) (ads : Option Addr) (cds : Nat) (aks : Option Addr) (cks : Nat) (left : Int) (w : World), Co.bulk (Co.mk k v ds ks) < N → RdS w (Co.d (Co.mk k v ds ks)) [.int .i64 k, .int .i64 v, .slice ads ds.length cds, .slice aks ks.length cks] → 0 ≤ left → left ≤ 1048576 →
  Calls Try.prog 6 #[.agg #[.int .i64 k, .int .i64 v, .slice ads ds.length cds, .slice aks ks.length cks], .int .i64 left] w fun e w' => e = .returned (.int .i64 (purse left (Co.bulk (Co.mk k v ds ks)))) ∧ Below w.heap.size w w'
def SzCos (N : Nat) : Prop := ∀ (ts : List Co) (a : Option Addr) (c : Nat) (left : Int) (w : World), Co.bulks ts < N → RdL w (Co.ds ts) (.slice a ts.length c) → 0 ≤ left → left ≤ 1048576 →
  Calls Try.prog 20 #[.slice a ts.length c, .int .i64 left] w fun e w' => e = .returned (.int .i64 (purse left (Co.bulks ts))) ∧ Below w.heap.size w w'
theorem szCo_step (N : Nat) (ih : SzCos N) : SzCo N := by
  intro k v ds ks ads cds aks cks left w hN hr h0 h1
  have hbk : Co.bulk (Co.mk k v ds ks) = In.bulks ds + Co.bulks ks := rfl
  obtain ⟨⟨lok, hik⟩, ⟨lov, hiv⟩, hds, hks⟩ := hr.fCo
  have hc0 := fun (W : World) (hb : Below w.heap.size w W) => (szIns ds ads cds (left) W (hds.below hb) (by omega) (by omega))
  by_cases hp0 : ((In.bulks ds : Nat) : Int) ≤ left
  case neg =>
    rw [purse_no hp0] at hc0
    have HC0 := hid hc0
    have HBK := hid hbk
    have HX0 := hid ((Boxes.nil w).alloc #[.int .i64 k, .int .i64 v, .slice ads ds.length cds, .slice aks ks.length cks] 27 (0, 0))
    have hbw0 : Below w.heap.size w (w.alloc (.cells #[.int .i64 k, .int .i64 v, .slice ads ds.length cds, .slice aks ks.length cks] 27)) := (Below.refl _ _).alloc (Nat.le_refl _) _
    have HBW := hid hbw0
    clear hr hbk hbw0 hc0 ih hds hks
    go_enter Try.func6, Try.ntmps6
    go_wp2_with fail
    refine (HC0.out _ HBW.out).mono ?_
    rintro e w1 ⟨rfl, hb1⟩
    have hbw1 := HBW.out.trans (hb1.mono (by simp))
    have hx1 := HX0.out.below hb1
    have HX1 := hid hx1
    clear hx1 hb1 HC0
    go_wp2_with fail
    go_ret
    exact ⟨ret_int (by rw [purse_no (by have := HBK.out; omega)]), hbw1⟩
  case pos =>
    rw [purse_ok hp0] at hc0
    have hc1 := fun (W : World) (hb : Below w.heap.size w W) => (ih ks aks cks (left - (In.bulks ds : Nat)) W (by omega) (hks.below hb) (by omega) (by omega))
    by_cases hp1 : ((Co.bulks ks : Nat) : Int) ≤ left - (In.bulks ds : Nat)
    case neg =>
      rw [purse_no hp1] at hc1
      have HC0 := hid hc0
      have HC1 := hid hc1
      have HBK := hid hbk
      have HX0 := hid ((Boxes.nil w).alloc #[.int .i64 k, .int .i64 v, .slice ads ds.length cds, .slice aks ks.length cks] 27 (0, 0))
      have hbw0 : Below w.heap.size w (w.alloc (.cells #[.int .i64 k, .int .i64 v, .slice ads ds.length cds, .slice aks ks.length cks] 27)) := (Below.refl _ _).alloc (Nat.le_refl _) _
      have HBW := hid hbw0
      clear hr hbk hbw0 hc0 hc1 ih hds hks
      go_enter Try.func6, Try.ntmps6
      go_wp2_with fail
      refine (HC0.out _ HBW.out).mono ?_
      rintro e w1 ⟨rfl, hb1⟩
      have hbw1 := HBW.out.trans (hb1.mono (by simp))
      have hx1 := HX0.out.below hb1
      have g1_3 := hx1.at 0 3 rfl rfl
      have HX1 := hid hx1
      clear hx1 hb1 HC0
      go_wp2_with fail
      refine (HC1.out _ hbw1).mono ?_
      rintro e w2 ⟨rfl, hb2⟩
      have hbw2 := hbw1.trans (hb2.mono hbw1.size)
      have hx2 := HX1.out.below hb2
      have HX2 := hid hx2
      clear hx2 hb2 HC1
      go_wp2_with fail
      go_ret
      exact ⟨ret_int (by rw [purse_no (by have := HBK.out; omega)]), hbw2⟩
    case pos =>
      rw [purse_ok hp1] at hc1
      have HC0 := hid hc0
      have HC1 := hid hc1
      have HBK := hid hbk
      have HX0 := hid ((Boxes.nil w).alloc #[.int .i64 k, .int .i64 v, .slice ads ds.length cds, .slice aks ks.length cks] 27 (0, 0))
      have hbw0 : Below w.heap.size w (w.alloc (.cells #[.int .i64 k, .int .i64 v, .slice ads ds.length cds, .slice aks ks.length cks] 27)) := (Below.refl _ _).alloc (Nat.le_refl _) _
      have HBW := hid hbw0
      clear hr hbk hbw0 hc0 hc1 ih hds hks
      go_enter Try.func6, Try.ntmps6
      go_wp2_with fail
      refine (HC0.out _ HBW.out).mono ?_
      rintro e w1 ⟨rfl, hb1⟩
      have hbw1 := HBW.out.trans (hb1.mono (by simp))
      have hx1 := HX0.out.below hb1
      have g1_3 := hx1.at 0 3 rfl rfl
      have HX1 := hid hx1
      clear hx1 hb1 HC0
      go_wp2_with fail
      refine (HC1.out _ hbw1).mono ?_
      rintro e w2 ⟨rfl, hb2⟩
      have hbw2 := hbw1.trans (hb2.mono hbw1.size)
      have hx2 := HX1.out.below hb2
      have HX2 := hid hx2
      clear hx2 hb2 HC1
      go_wp2_with fail
      go_ret
      exact ⟨ret_int (by rw [purse_ok (by have := HBK.out; omega)]; have := HBK.out; omega), hbw2⟩

theorem szCos_step (N : Nat) (ih : SzCo N) : SzCos (N + 1) := by
  intro ts a c left w hN hr h0 h1
  obtain ⟨_, _, e, h2, h3, h4⟩ := hr.eCo
  simp only [Value.slice.injEq, true_and] at e
  obtain ⟨rfl, rfl⟩ := e
  have hl := Co.bulks_length ts
  have IH := hid ih
  have H4 := hid h4
  clear hr h4 ih
  by_cases hs : left < ts.length
  · rw [purse_no (by omega)]
    go_enter Try.func20, Try.ntmps20
    go_wp2_with fail
    go_ret
    exact ⟨rfl, Below.refl _ _⟩
  · have hd0 : decide (left - (ts.length : Int) < 0) = false := by simp; omega
    go_enter Try.func20, Try.ntmps20
    go_wp2_with fail
    go_loopw [1, 5] (fun l i wr => ∃ (j : Nat) (L : Int), j ≤ ts.length ∧ i = .int .i64 j ∧ l = .int .i64 L ∧ Hid (L + (Co.bulks (ts.take j) + ts.length : Nat) = left + j) ∧ 0 ≤ L ∧ L ≤ 1048576 ∧ Below w.heap.size w wr) (fun _ i _ => ts.length - (intOf i).toNat)
    case atStart => exact ⟨0, left - ts.length, by omega, rfl, rfl, by show _ = _; simp [Co.bulks], by omega, by omega, Below.refl _ _⟩
    case round =>
      obtain ⟨j, L, hj, rfl, rfl, HL, hL0, hL1, hb⟩ := hrel
      by_cases hlt : j < ts.length
      · obtain ⟨b, o, rfl, hbl, hall⟩ := H4.out (by omega)
        obtain ⟨t, ht⟩ : ∃ t, ts[j]? = some t := ⟨_, List.getElem?_eq_getElem hlt⟩
        obtain ⟨k1, v1, ds1, ks1⟩ := t
        obtain ⟨ads1, cds1, aks1, cks1, q0, q1, q2, q3, hrk⟩ := hall j k1 v1 ds1 ks1 ht
        clear hall H4
        have d0 := (hb.cell (p := ⟨b, o + j * 4, none⟩) hbl).trans q0
        have d1 := (hb.cell (p := ⟨b, o + j * 4 + 1, none⟩) hbl).trans q1
        have d2 := (hb.cell (p := ⟨b, o + j * 4 + 2, none⟩) hbl).trans q2
        have d3 := (hb.cell (p := ⟨b, o + j * 4 + 3, none⟩) hbl).trans q3
        have HT := hid ht
        have hc := IH.out k1 v1 ds1 ks1 ads1 cds1 aks1 cks1 L wr (by have := Co.bulk_get ts j _ ht; omega) (hrk.below hb) hL0 hL1
        have hst := Co.bulks_take ts j _ ht
        have hle := Co.bulks_le ts (j + 1)
        by_cases hp : ((Co.bulk (Co.mk k1 v1 ds1 ks1) : Nat) : Int) ≤ L
        · rw [purse_ok hp] at hc
          have HC := hid hc
          have HS := hid hst
          clear ht hrk q0 q1 q2 q3 hc hst
          go_wp2_with fail
          refine HC.out.mono ?_
          clear HC
          rintro e w1 ⟨rfl, hb1⟩
          go_wp2_with fail
          go_roundw
          case rel => exact ⟨j + 1, _, by omega, by go_num, rfl, by show _ = _; have := HL.out; have := HS.out; omega, by omega, by omega, hb.trans (hb1.mono hb.size)⟩
          case measure => simp [intOf]; omega
        · rw [purse_no hp] at hc
          have HC := hid hc
          have HS := hid hst
          clear ht hrk q0 q1 q2 q3 hc hst
          go_wp2_with fail
          refine HC.out.mono ?_
          clear HC
          rintro e w1 ⟨rfl, hb1⟩
          go_wp2_with fail
          go_ret
          exact ⟨ret_int (by rw [purse_no (by have := HL.out; have := HS.out; omega)]), hb.trans (hb1.mono hb.size)⟩
      · obtain rfl : j = ts.length := by omega
        rw [List.take_length] at HL
        go_wp2_with fail
        go_ret
        exact ⟨ret_int (by rw [purse_ok (by have := HL.out; omega)]; have := HL.out; omega), hb⟩

theorem szCo_all : ∀ M, SzCo M ∧ SzCos M
  | 0 => ⟨fun _ _ _ _ _ _ _ _ _ _ h => absurd h (by omega), fun _ _ _ _ _ h => absurd h (by omega)⟩
  | M + 1 => by
    have h := szCo_all M
    have h2 := szCos_step M h.1
    exact ⟨szCo_step (M + 1) h2, h2⟩
theorem szCo (k : Int) (v : Int) (ds : List Int) (ks : List Co) (ads : Option Addr) (cds : Nat) (aks : Option Addr) (cks : Nat) (left : Int) (w : World) (hr : RdS w (Co.d (Co.mk k v ds ks)) [.int .i64 k, .int .i64 v, .slice ads ds.length cds, .slice aks ks.length cks]) (h0 : 0 ≤ left) (h1 : left ≤ 1048576) :
    Calls Try.prog 6 #[.agg #[.int .i64 k, .int .i64 v, .slice ads ds.length cds, .slice aks ks.length cks], .int .i64 left] w fun e w' => e = .returned (.int .i64 (purse left (Co.bulk (Co.mk k v ds ks)))) ∧ Below w.heap.size w w' :=
  (szCo_all (Co.bulk (Co.mk k v ds ks) + 1)).1 k v ds ks ads cds aks cks left w (by omega) hr h0 h1
theorem szCos (ts : List Co) (a : Option Addr) (c : Nat) (left : Int) (w : World) (hr : RdL w (Co.ds ts) (.slice a ts.length c)) (h0 : 0 ≤ left) (h1 : left ≤ 1048576) :
    Calls Try.prog 20 #[.slice a ts.length c, .int .i64 left] w fun e w' => e = .returned (.int .i64 (purse left (Co.bulks ts))) ∧ Below w.heap.size w w' :=
  (szCo_all (Co.bulks ts + 1)).2 ts a c left w (by omega) hr h0 h1

end Go.Proofs.Ytejdbmeoaekhcaa
