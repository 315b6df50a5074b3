/- Walks: FindData. -/
import Derived.Test.YtdllmbbdhfnikaaDatOkI
namespace Go.Proofs.Ytdllmbbdhfnikaa
open Go.ChangeShapes Go.WideShapes Go.ChangeAt Go.RowKit Go.BigFrame
open Go.Sort (grow)
set_option linter.unusedVariables false

theorem spec_ValidDatas (ts : List Dat) (a : Option Addr) (c : Nat) (w : World) (hM : Dat.bulks ts ≤ 1048576) (hd : RdL w (Dat.ds ts) (.slice a ts.length c)) :
    Calls Try.prog 33 #[.slice a ts.length c] w fun e w' => e = .returned (.bool (datasOk ts)) ∧ Below w.heap.size w w' := by
  have HC := hid (spec_l02Ok ts a c w hM hd)
  clear hd
  go_enter Try.func33, Try.ntmps33
  go_wp2_with fail
  refine HC.out.mono ?_
  rintro e w1 ⟨rfl, hb⟩
  go_wp2_with fail
  go_ret
  exact ⟨rfl, hb⟩
def foundD (ts : List Dat) (nm : ByteArray) : Int × Bool := if datasOk ts && decide (0 ≤ named ts nm) then (named ts nm, true) else (0, false)
theorem spec_FindData (ts : List Dat) (a : Option Addr) (c : Nat) (nm : ByteArray) (w : World) (hM : Dat.bulks ts ≤ 1048576) (hd : RdL w (Dat.ds ts) (.slice a ts.length c)) :
    Calls Try.prog 39 #[.slice a ts.length c, .string nm] w fun e w' => e = .returned (.tuple #[.int .i64 (foundD ts nm).1, .bool (foundD ts nm).2]) ∧ Below w.heap.size w w' := by
  have hc := spec_l02Ok ts a c w hM hd
  have hn := fun W (hW : Below w.heap.size w W) => spec_Named ts a c nm W (hd.below hW)
  by_cases hk : datasOk ts = true
  case neg =>
    replace hk := (Bool.not_eq_true _).mp hk
    have HF := hid (show foundD ts nm = (0, false) by simp [foundD, hk])
    rw [hk] at hc
    have HC := hid hc
    clear hc hk hd hM hn
    go_enter Try.func39, Try.ntmps39
    go_wp2_with fail
    refine HC.out.mono ?_
    rintro e w1 ⟨rfl, hb⟩
    have HB := hid hb
    clear hb
    go_wp2_with fail
    go_ret2
    exact ⟨by rw [HF.out]; rfl, HB.out⟩
  case pos =>
    by_cases hq : 0 ≤ named ts nm
    all_goals
      have HF := hid (show foundD ts nm = (if 0 ≤ named ts nm then (named ts nm, true) else (0, false)) by simp [foundD, hk])
      rw [hk] at hc
      have HC := hid hc
      first
        | (rw [if_pos hq] at HF; have hqb : decide (named ts nm < 0) = false := by simp; omega)
        | (rw [if_neg hq] at HF; have hqb : decide (named ts nm < 0) = true := by simp; omega)
      generalize named ts nm = m at HF hn hqb
      have HN := hid hn
      clear hc hk hd hM hn hq
      go_enter Try.func39, Try.ntmps39
      go_wp2_with fail
      refine HC.out.mono ?_
      rintro e w1 ⟨rfl, hb⟩
      have HB := hid hb
      clear hb
      go_wp2_with fail
      refine (HN.out _ HB.out).mono ?_
      rintro e w2 ⟨rfl, rfl⟩
      go_wp2_with fail
    · refine (HN.out _ HB.out).mono ?_
      rintro e w3 ⟨rfl, rfl⟩
      go_wp2_with fail
      go_ret2
      exact ⟨by rw [HF.out]; rfl, HB.out⟩
    · go_ret2
      exact ⟨by rw [HF.out]; rfl, HB.out⟩
theorem impl_FindData (ts : List Dat) (a : Option Addr) (c : Nat) (nm : ByteArray) (w : World) (hM : Dat.bulks ts ≤ 1048576) (hd : RdL w (Dat.ds ts) (.slice a ts.length c)) :
    Calls Try.prog 40 #[.slice a ts.length c, .string nm] w fun e w' => e = .returned (.tuple #[.int .i64 (foundD ts nm).1, .bool (foundD ts nm).2]) ∧ Below w.heap.size w w' := by
  have hn := impl_findData ts a c nm w hd
  have hc := fun W (hW : Below w.heap.size w W) => impl_ValidDatas ts a c W hM (hd.below hW)
  by_cases hk : datasOk ts = true
  case neg =>
    replace hk := (Bool.not_eq_true _).mp hk
    have HF := hid (show foundD ts nm = (0, false) by simp [foundD, hk])
    rw [hk] at hc
    have HC := hid hc
    have HN := hid hn
    clear hc hk hd hM hn
    go_enter Try.func40, Try.ntmps40
    go_wp2_with fail
    refine HN.out.mono ?_
    rintro e w1 ⟨rfl, hb⟩
    have HB := hid hb
    clear hb
    go_wp2_with fail
    refine (HC.out _ HB.out).mono ?_
    rintro e w2 ⟨rfl, hb⟩
    have HB2 := hid (HB.out.trans (hb.mono HB.out.size))
    clear hb
    go_wp2_with fail
    go_ret2
    exact ⟨by rw [HF.out]; rfl, HB2.out⟩
  case pos =>
    by_cases hq : 0 ≤ named ts nm
    all_goals
      have HF := hid (show foundD ts nm = (if 0 ≤ named ts nm then (named ts nm, true) else (0, false)) by simp [foundD, hk])
      rw [hk] at hc
      have HC := hid hc
      first
        | (rw [if_pos hq] at HF; have hqb : decide (named ts nm < 0) = false := by simp; omega)
        | (rw [if_neg hq] at HF; have hqb : decide (named ts nm < 0) = true := by simp; omega)
      generalize named ts nm = m at HF hn hqb
      have HN := hid hn
      clear hc hk hd hM hn hq
      go_enter Try.func40, Try.ntmps40
      go_wp2_with fail
      refine HN.out.mono ?_
      rintro e w1 ⟨rfl, hb⟩
      have HB := hid hb
      clear hb
      go_wp2_with fail
      refine (HC.out _ HB.out).mono ?_
      rintro e w2 ⟨rfl, hb⟩
      have HB2 := hid (HB.out.trans (hb.mono HB.out.size))
      clear hb
      go_wp2_with fail
      go_ret2
      exact ⟨by rw [HF.out]; rfl, HB2.out⟩
end Go.Proofs.Ytdllmbbdhfnikaa
