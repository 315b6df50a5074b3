/- Walks: ReadDecimal in the program. No condition. -/
import Derived.Test.YtikhofcjkcbpbaaDoorRvS
import Derived.Test.YtikhofcjkcbpbaaDoorDeI
import Derived.Test.YtikhofcjkcbpbaaDoorLaid
import Derived.Stop.LaidTwo
import Derived.Lib.ParseIntBMem
namespace Go.Proofs.YtikhofcjkcbpbaaDoor
open Go.ChangeShapes Go.WideShapes Go.ChangeAt Go.RowKit
set_option linter.unusedVariables false

/-- The two errors of strconv lie in their variables. -/
def Errs (w : World) : Prop := (∃ tp p, w.var? Tryd.prog "strconv.ErrSyntax" = some #[.iface tp p]) ∧ ∃ tp p, w.var? Tryd.prog "strconv.ErrRange" = some #[.iface tp p]
theorem gErrS : Tryd.prog.globalNamed "strconv.ErrSyntax" = some 1 := by kernel_rfl
theorem gErrR : Tryd.prog.globalNamed "strconv.ErrRange" = some 2 := by kernel_rfl
theorem var_lt {w : World} {n : String} {g : Nat} {cs : Array Value} (hg : Tryd.prog.globalNamed n = some g) (h : w.var? Tryd.prog n = some cs) : g < w.heap.size := by
  rcases Nat.lt_or_ge g w.heap.size with h' | h'
  · exact h'
  · exfalso
    unfold World.var? at h
    rw [hg, Option.bind_some, Array.getElem?_eq_none h'] at h
    cases h
theorem Errs.below {w w' : World} (h : Errs w) (hb : Below w.heap.size w w') : Errs w' := by
  obtain ⟨⟨t1, p1, h1⟩, ⟨t2, p2, h2⟩⟩ := h
  exact ⟨⟨t1, p1, var?_below hb gErrS (var_lt gErrS h1) h1⟩, ⟨t2, p2, var?_below hb gErrR (var_lt gErrR h2) h2⟩⟩
theorem errs_of_laid {W : World} (h : laidMet Tryd.prog [("math/bits.deBruijn32tab", Rows.laid_math_bits_deBruijn32tab), ("math/bits.deBruijn64tab", Rows.laid_math_bits_deBruijn64tab), ("internal/strconv.uint64pow10", Rows.laid_internal_strconv_uint64pow10), ("strconv.ErrRange", Rows.laid_strconv_ErrRange), ("strconv.ErrSyntax", Rows.laid_strconv_ErrSyntax)] W) : Errs W := by
  have h3 := h.tail.tail.tail
  have row : ∀ u, Tryd.prog.typeName? 3 u = some "*errors.errorString" → u = 123 := fun u hu => typeName_ptr_named (nm := "errors.errorString") (by kernel_rfl) (by kernel_rfl) (by decide) u hu
  obtain ⟨a0, s0, hv0, -⟩ := laid_sentinel h3 gErrR (by kernel_rfl) Tryd.underlying49 row Tryd.underlying123 Tryd.underlying125 rfl rfl Tryd.underlying9 (by kernel_rfl) (by kernel_rfl)
  obtain ⟨a1, s1, hv1, -⟩ := laid_sentinel h3.tail gErrS (by kernel_rfl) Tryd.underlying49 row Tryd.underlying123 Tryd.underlying125 rfl rfl Tryd.underlying9 (by kernel_rfl) (by kernel_rfl)
  exact ⟨⟨_, _, hv1⟩, ⟨_, _, hv0⟩⟩
set_option maxRecDepth 100000 in
theorem impl_Int (n : Int) (w : World) : Calls Tryd.prog 25 #[.int .i64 n] w fun e w' => e = .returned (.bool (lint n)) ∧ w = w' := by
  unfold lint
  by_cases h1 : -2147483648 ≤ n
  · by_cases h2 : n ≤ 2147483647
    · go_enter Tryd.func25, Tryd.ntmps25
      go_wp2_with fail
      go_ret
      exact ⟨by simp [*], rfl⟩
    · go_enter Tryd.func25, Tryd.ntmps25
      go_wp2_with fail
      go_ret
      exact ⟨by simp [*], rfl⟩
  · go_enter Tryd.func25, Tryd.ntmps25
    go_wp2_with fail
    go_ret
    exact ⟨by (simp [*]; omega), rfl⟩
theorem readDec_not {l : List UInt8} (h : ∀ v, Lib.parseIntB 64 l ≠ .ok v) : readDec l = none :=
  readDec_none fun v hv he => h v (by rw [← he]; exact parse_itoa hv)
set_option maxRecDepth 100000 in
set_option maxHeartbeats 4000000 in
theorem impl_ReadDecimal (s : ByteArray) (hs : s.size ≤ 1048576) (w : World) (hp : Pow w) (he : Errs w) :
    Calls Tryd.prog 10 #[.string s] w (Reads w (readDec s.data.toList)) := by
  obtain ⟨⟨t1, p1, he1⟩, ⟨t2, p2, he2⟩⟩ := he
  have HP := hid hp
  cases hpi : Lib.parseIntB 64 s.data.toList
  case' ok v =>
    have hc := Tryd.strconv_ParseInt_10_at64_ok s (by omega) v hpi w
    have HC := hid hc
    have HV := hid (fun u (h : readDec s.data.toList = some u) => (show u = v by have h1 := (readDec_some h); have h2 := parse_itoa h1.1; rw [h1.2, hpi] at h2; simpa using h2.symm))
    clear hc hpi he1 he2 hp
    by_cases hl : lint v = true
    case pos =>
      have hlim : -2147483648 ≤ v ∧ v ≤ 2147483647 := by simpa only [lint, Bool.and_eq_true, decide_eq_true_eq] using hl
      have HD1 := hid (fun w' (h : Pow w') => impl_Decimal v (by omega) (by omega) w' h)
      clear hlim
      by_cases he : Lib.itoa v = s.data.toList
      case pos =>
        have HR := hid (readDec_of hl he)
        have g1 := sneq_f he
        clear he
        go_enter Tryd.func10, Tryd.ntmps10
        go_wp2_with fail
        refine HC.out.mono ?_
        rintro e w1 ⟨rfl, hw1⟩
        have HB1 := hid (show Below w.heap.size w w1 by rcases hw1 with rfl | ⟨t, rfl⟩; exact Below.refl _ _; exact Lib.bytesWorld_below _ _ _)
        clear hw1
        go_wp2_with (first | (go_at_call 25; refine (impl_Int _ _).mono ?_; rintro e w' ⟨rfl, rfl⟩) | (go_at_call 8; refine (HD1.out _ (HP.out.below HB1.out)).mono ?_; rintro e w2 ⟨rfl, hb⟩; have HB := hid (HB1.out.trans (hb.mono HB1.out.size)); clear hb))
        go_ret2
        exact reads_some HR.out HB.out
      case neg =>
        have HR := hid (readDec_none (l := s.data.toList) (fun u hu h2 => he (by have h3 := HV.out u (readDec_of hu h2); rw [← h3]; exact h2)))
        have g1 := sneq_t he
        clear he
        go_enter Tryd.func10, Tryd.ntmps10
        go_wp2_with fail
        refine HC.out.mono ?_
        rintro e w1 ⟨rfl, hw1⟩
        have HB1 := hid (show Below w.heap.size w w1 by rcases hw1 with rfl | ⟨t, rfl⟩; exact Below.refl _ _; exact Lib.bytesWorld_below _ _ _)
        clear hw1
        go_wp2_with (first | (go_at_call 25; refine (impl_Int _ _).mono ?_; rintro e w' ⟨rfl, rfl⟩) | (go_at_call 8; refine (HD1.out _ (HP.out.below HB1.out)).mono ?_; rintro e w2 ⟨rfl, hb⟩; have HB := hid (HB1.out.trans (hb.mono HB1.out.size)); clear hb))
        go_ret2
        exact reads_none HR.out HB.out
    case neg =>
      have HR := hid (readDec_none (l := s.data.toList) (fun u hu h2 => hl (by have h3 := HV.out u (readDec_of hu h2); rw [← h3]; exact hu)))
      have hlf : lint v = false := by simpa using hl
      clear hl
      go_enter Tryd.func10, Tryd.ntmps10
      go_wp2_with fail
      refine HC.out.mono ?_
      rintro e w1 ⟨rfl, hw1⟩
      have HB1 := hid (show Below w.heap.size w w1 by rcases hw1 with rfl | ⟨t, rfl⟩; exact Below.refl _ _; exact Lib.bytesWorld_below _ _ _)
      clear hw1
      go_wp2_with (first | (go_at_call 25; refine (impl_Int _ _).mono ?_; rintro e w' ⟨rfl, rfl⟩))
      go_ret2
      exact reads_none HR.out HB1.out
  case' range =>
    have hc := Tryd.strconv_ParseInt_10_at64_range_var s (by omega) hpi t2 p2 w he2
  all_goals try have hc := Tryd.strconv_ParseInt_10_at64_syntax_var s (by omega) hpi t1 p1 w he1
  all_goals
    have HR := hid (readDec_not (l := s.data.toList) (fun v h => by rw [hpi] at h; cases h))
    have HC := hid hc
    clear hc hpi he1 he2 hp
    go_enter Tryd.func10, Tryd.ntmps10
    go_wp2_with fail
    refine HC.out.mono ?_
    rintro e w1 ⟨N, rfl, -, -, hb⟩
    have HB1 := hid hb
    clear hb
    go_wp2_with fail
    go_ret2
    exact reads_none HR.out HB1.out
end Go.Proofs.YtikhofcjkcbpbaaDoor
