/- Walks of the laws' helpers: the comparison of two copies of one Token. No condition. -/
import Derived.Test.YtikhofcjkcbpbaaDoorSzTk
import Derived.Test.YtikhofcjkcbpbaaDoorEqSc
namespace Go.Proofs.YtikhofcjkcbpbaaDoor
open Go.ChangeShapes Go.WideShapes Go.ChangeAt Go.RowKit
open Go.Sort (grow)
set_option linter.unusedVariables false

abbrev EqTk : Prop := ∀ (k : Int) (n : ByteArray) (a : Int)   (w : World), RdS w (Tk.d (Tk.mk k n a)) [.int .i64 k, .string n, .int .i64 a] → RdS w (Tk.d (Tk.mk k n a)) [.int .i64 k, .string n, .int .i64 a] →
  Calls Tryd.prog 39 #[.agg #[.int .i64 k, .string n, .int .i64 a], .agg #[.int .i64 k, .string n, .int .i64 a]] w fun e w' => e = .returned (.bool true) ∧ Below w.heap.size w w'
theorem eqTk : EqTk := by
  intro k n a   w hr hr'
  have hbk : Tk.bulk (Tk.mk k n a) = n.size := rfl
  obtain ⟨⟨lok, hik⟩, zn, ⟨loa, hia⟩⟩ := hr.fTk
  obtain ⟨⟨lok', hik'⟩, zn', ⟨loa', hia'⟩⟩ := hr'.fTk
  have HX0 := hid (((Boxes.nil w).alloc #[.int .i64 k, .string n, .int .i64 a] 68 (0, 0)).alloc #[.int .i64 k, .string n, .int .i64 a] 68 (0, 0))
  have HB0 := hid (((Below.refl w.heap.size w).alloc (Nat.le_refl _) (.cells #[.int .i64 k, .string n, .int .i64 a] 68)).alloc (by simp) (.cells #[.int .i64 k, .string n, .int .i64 a] 68))
  clear hr hr' hbk
  go_enter Tryd.func39, Tryd.ntmps39
  go_wp2_with fail
  go_ret
  exact ⟨rfl, HB0.out⟩

theorem eqTks (ts : List Tk) (a a' : Option Addr) (c c' : Nat) (w : World) (hr : RdL w (Tk.ds ts) (.slice a ts.length c)) (hr' : RdL w (Tk.ds ts) (.slice a' ts.length c')) :
    Calls Tryd.prog 18 #[.slice a ts.length c, .slice a' ts.length c'] w fun e w' => e = .returned (.bool true) ∧ Below w.heap.size w w' := by
  obtain ⟨_, _, e, h2, h3, h4⟩ := hr.eTk
  simp only [Value.slice.injEq, true_and] at e
  obtain ⟨rfl, rfl⟩ := e
  obtain ⟨_, _, e, h2', h3', h4'⟩ := hr'.eTk
  simp only [Value.slice.injEq, true_and] at e
  obtain ⟨rfl, rfl⟩ := e
  have H4 := hid h4
  have H4' := hid h4'
  clear hr h4 hr' h4'
  go_enter Tryd.func18, Tryd.ntmps18
  go_wp2_with fail
  go_loopw [5] (fun i wr => ∃ (j : Nat), j ≤ ts.length ∧ i = .int .i64 j ∧ Below w.heap.size w wr) (fun i _ => ts.length - (intOf i).toNat)
  case atStart => exact ⟨0, by omega, rfl, Below.refl _ _⟩
  case round =>
    obtain ⟨j, hj, rfl, hb⟩ := hrel
    by_cases hlt : j < ts.length
    · obtain ⟨b, o, rfl, hbl, hall⟩ := H4.out (by omega)
      obtain ⟨b', o', rfl, hbl', hall'⟩ := H4'.out (by omega)
      obtain ⟨t, ht⟩ : ∃ t, ts[j]? = some t := ⟨_, List.getElem?_eq_getElem hlt⟩
      obtain ⟨k1, n1, a1⟩ := t
      obtain ⟨q0, q1, q2, hrk⟩ := hall j k1 n1 a1 ht
      obtain ⟨p0, p1, p2, hrk'⟩ := hall' j k1 n1 a1 ht
      clear hall H4 hall' H4'
      have d0 := cell_regrown ((hb.cell (p := ⟨b, o + j * 3, none⟩) hbl).trans q0)
      have d3 := cell_regrown ((hb.cell (p := ⟨b', o' + j * 3, none⟩) hbl').trans p0)
      have d1 := cell_regrown ((hb.cell (p := ⟨b, o + j * 3 + 1, none⟩) hbl).trans q1)
      have d4 := cell_regrown ((hb.cell (p := ⟨b', o' + j * 3 + 1, none⟩) hbl').trans p1)
      have d2 := cell_regrown ((hb.cell (p := ⟨b, o + j * 3 + 2, none⟩) hbl).trans q2)
      have d5 := cell_regrown ((hb.cell (p := ⟨b', o' + j * 3 + 2, none⟩) hbl').trans p2)
      have hbg := Tk.bulk_get ts j _ ht
      have hc := fun d os => Calls.regrown_of (eqTk k1 n1 a1   (grow (redrawn wr d) os) ((hrk.below hb).below (below_regrown wr d os)) ((hrk'.below hb).below (below_regrown wr d os)))
      have HC := hid hc
      clear ht hrk hrk' q0 q1 q2 p0 p1 p2 hc
      go_wp2_with fail
      refine wp_region_quiet_below (by kernel_rfl) (by kernel_rfl) ?_
      repeat (quiet_step (exact HC.out _ _))
      refine wpQuiet_nil ?_
      intro _ hw'
      obtain ⟨⟨dq, osq⟩, hw''⟩ := hw'
      subst hw''
      have hbq := hb.trans ((below_regrown wr dq osq).mono hb.size)
      clear HC d0 d1 d2 d3 d4 d5
      go_wp2_with fail
      go_roundw
      case rel => exact ⟨j + 1, by omega, by go_num, hbq⟩
      case measure => simp [intOf]; omega
    · go_wp2_with fail
      go_ret
      exact ⟨rfl, hb⟩

end Go.Proofs.YtikhofcjkcbpbaaDoor
