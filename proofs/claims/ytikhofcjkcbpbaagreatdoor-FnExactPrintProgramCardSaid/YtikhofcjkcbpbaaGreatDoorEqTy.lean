/- Walks of the laws' helpers: the comparison of two copies of one Type. No condition. -/
import Derived.Test.YtikhofcjkcbpbaaGreatDoorSzTy
import Derived.Test.YtikhofcjkcbpbaaGreatDoorEqSc
namespace Go.Proofs.YtikhofcjkcbpbaaGreatDoor
open Go.ChangeShapes Go.WideShapes Go.ChangeAt Go.RowKit
open Go.Sort (grow)
set_option linter.unusedVariables false

def EqTy (N : Nat) : Prop := ∀ (k : Int) (n : ByteArray) (ks : List Ty) (aks : Option Addr) (cks : Nat) (aks' : Option Addr) (cks' : Nat) (w : World), Ty.bulk (Ty.mk k n ks) < N → RdS w (Ty.d (Ty.mk k n ks)) [.int .i64 k, .string n, .slice aks ks.length cks] → RdS w (Ty.d (Ty.mk k n ks)) [.int .i64 k, .string n, .slice aks' ks.length cks'] →
  Calls Tryz.prog 26 #[.agg #[.int .i64 k, .string n, .slice aks ks.length cks], .agg #[.int .i64 k, .string n, .slice aks' ks.length cks']] w fun e w' => e = .returned (.bool true) ∧ Below w.heap.size w w'
def EqTys (N : Nat) : Prop := ∀ (ts : List Ty) (a a' : Option Addr) (c c' : Nat) (w : World), Ty.bulks ts < N → RdL w (Ty.ds ts) (.slice a ts.length c) → RdL w (Ty.ds ts) (.slice a' ts.length c') →
  Calls Tryz.prog 55 #[.slice a ts.length c, .slice a' ts.length c'] w fun e w' => e = .returned (.bool true) ∧ Below w.heap.size w w'
theorem eqTy_step (N : Nat) (ih : EqTys N) : EqTy N := by
  intro k n ks aks cks aks' cks' w hN hr hr'
  have hbk : Ty.bulk (Ty.mk k n ks) = n.size + Ty.bulks ks := rfl
  obtain ⟨⟨lok, hik⟩, zn, hks⟩ := hr.fTy
  obtain ⟨⟨lok', hik'⟩, zn', hks'⟩ := hr'.fTy
  have hc1 := fun (W : World) (hb : Below w.heap.size w W) => ih ks aks aks' cks cks' W (by omega) (hks.below hb) (hks'.below hb)
  have HC1 := hid hc1
  have HX0 := hid (((Boxes.nil w).alloc #[.int .i64 k, .string n, .slice aks ks.length cks] 33 (0, 0)).alloc #[.int .i64 k, .string n, .slice aks' ks.length cks'] 33 (0, 0))
  have HB0 := hid (((Below.refl w.heap.size w).alloc (Nat.le_refl _) (.cells #[.int .i64 k, .string n, .slice aks ks.length cks] 33)).alloc (by simp) (.cells #[.int .i64 k, .string n, .slice aks' ks.length cks'] 33))
  clear hr hr' hbk hc1 ih hN hks hks'
  go_enter Tryz.func26, Tryz.ntmps26
  go_wp2_with fail
  refine (HC1.out _ HB0.out).mono ?_
  rintro e w1 ⟨rfl, hb1⟩
  have hbw1 := HB0.out.trans (hb1.mono (by simp; omega))
  have hx1 := HX0.out.below hb1
  have HX1 := hid hx1
  clear hx1 hb1 HC1
  go_wp2_with fail
  go_ret
  exact ⟨rfl, hbw1⟩

theorem eqTys_step (N : Nat) (ih : EqTy N) : EqTys (N + 1) := by
  intro ts a a' c c' w hN hr hr'
  obtain ⟨_, _, e, h2, h3, h4⟩ := hr.eTy
  simp only [Value.slice.injEq, true_and] at e
  obtain ⟨rfl, rfl⟩ := e
  obtain ⟨_, _, e, h2', h3', h4'⟩ := hr'.eTy
  simp only [Value.slice.injEq, true_and] at e
  obtain ⟨rfl, rfl⟩ := e
  have H4 := hid h4
  have H4' := hid h4'
  have IH := hid ih
  clear hr h4 hr' h4' ih
  go_enter Tryz.func55, Tryz.ntmps55
  go_wp2_with fail
  go_loopw [5] (fun i wr => ∃ (j : Nat), j ≤ ts.length ∧ i = .int .i64 j ∧ Below w.heap.size w wr) (fun i _ => ts.length - (intOf i).toNat)
  case atStart => exact ⟨0, by omega, rfl, Below.refl _ _⟩
  case round =>
    obtain ⟨j, hj, rfl, hb⟩ := hrel
    by_cases hlt : j < ts.length
    · obtain ⟨b, o, rfl, hbl, hall⟩ := H4.out (by omega)
      obtain ⟨b', o', rfl, hbl', hall'⟩ := H4'.out (by omega)
      obtain ⟨t, ht⟩ : ∃ t, ts[j]? = some t := ⟨_, List.getElem?_eq_getElem hlt⟩
      obtain ⟨k1, n1, ks1⟩ := t
      obtain ⟨aks1, cks1, q0, q1, q2, hrk⟩ := hall j k1 n1 ks1 ht
      obtain ⟨aks2, cks2, p0, p1, p2, hrk'⟩ := hall' j k1 n1 ks1 ht
      clear hall H4 hall' H4'
      have d0 := cell_regrown ((hb.cell (p := ⟨b, o + j * 3, none⟩) hbl).trans q0)
      have d3 := cell_regrown ((hb.cell (p := ⟨b', o' + j * 3, none⟩) hbl').trans p0)
      have d1 := cell_regrown ((hb.cell (p := ⟨b, o + j * 3 + 1, none⟩) hbl).trans q1)
      have d4 := cell_regrown ((hb.cell (p := ⟨b', o' + j * 3 + 1, none⟩) hbl').trans p1)
      have d2 := cell_regrown ((hb.cell (p := ⟨b, o + j * 3 + 2, none⟩) hbl).trans q2)
      have d5 := cell_regrown ((hb.cell (p := ⟨b', o' + j * 3 + 2, none⟩) hbl').trans p2)
      have hbg := Ty.bulk_get ts j _ ht
      have hc := fun d os => Calls.regrown_of (IH.out k1 n1 ks1 aks1 cks1 aks2 cks2 (grow (redrawn wr d) os) (by omega) ((hrk.below hb).below (below_regrown wr d os)) ((hrk'.below hb).below (below_regrown wr d os)))
      have HC := hid hc
      clear ht hrk hrk' q0 q1 q2 p0 p1 p2 hc
      go_wp2_with fail
      refine wp_region_quiet_below (by kernel_rfl) (by kernel_rfl) ?_
      repeat (quiet_step (exact HC.out _ _))
      refine wpQuiet_nil ?_
      intro _ hw'
      obtain ⟨⟨dq, osq⟩, hw''⟩ := hw'
      subst hw''
      have hbq := hb.trans ((below_regrown wr dq osq).mono hb.size)
      clear HC d0 d1 d2 d3 d4 d5
      go_wp2_with fail
      go_roundw
      case rel => exact ⟨j + 1, by omega, by go_num, hbq⟩
      case measure => simp [intOf]; omega
    · go_wp2_with fail
      go_ret
      exact ⟨rfl, hb⟩

theorem eqTy_all : ∀ M, EqTy M ∧ EqTys M
  | 0 => ⟨fun _ _ _ _ _ _ _ _ h => absurd h (by omega), fun _ _ _ _ _ _ h => absurd h (by omega)⟩
  | M + 1 => by
    have h := eqTy_all M
    have h2 := eqTys_step M h.1
    exact ⟨eqTy_step (M + 1) h2, h2⟩
theorem eqTy (k : Int) (n : ByteArray) (ks : List Ty) (aks : Option Addr) (cks : Nat) (aks' : Option Addr) (cks' : Nat) (w : World) (hr : RdS w (Ty.d (Ty.mk k n ks)) [.int .i64 k, .string n, .slice aks ks.length cks]) (hr' : RdS w (Ty.d (Ty.mk k n ks)) [.int .i64 k, .string n, .slice aks' ks.length cks']) :
    Calls Tryz.prog 26 #[.agg #[.int .i64 k, .string n, .slice aks ks.length cks], .agg #[.int .i64 k, .string n, .slice aks' ks.length cks']] w fun e w' => e = .returned (.bool true) ∧ Below w.heap.size w w' :=
  (eqTy_all (Ty.bulk (Ty.mk k n ks) + 1)).1 k n ks aks cks aks' cks' w (by omega) hr hr'
theorem eqTys (ts : List Ty) (a a' : Option Addr) (c c' : Nat) (w : World) (hr : RdL w (Ty.ds ts) (.slice a ts.length c)) (hr' : RdL w (Ty.ds ts) (.slice a' ts.length c')) :
    Calls Tryz.prog 55 #[.slice a ts.length c, .slice a' ts.length c'] w fun e w' => e = .returned (.bool true) ∧ Below w.heap.size w w' :=
  (eqTy_all (Ty.bulks ts + 1)).2 ts a a' c c' w (by omega) hr hr'

end Go.Proofs.YtikhofcjkcbpbaaGreatDoor
