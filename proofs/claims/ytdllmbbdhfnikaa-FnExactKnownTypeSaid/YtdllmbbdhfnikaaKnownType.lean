/- Walks: KnownType. -/
import Derived.Test.YtdllmbbdhfnikaaDatOkI
import Derived.Test.YtdllmbbdhfnikaaDatKnown
namespace Go.Proofs.Ytdllmbbdhfnikaa
open Go.ChangeShapes Go.WideShapes Go.ChangeAt Go.RowKit Go.BigFrame
open Go.Sort (grow)
set_option linter.unusedVariables false

def knownT (ts : List Dat) (t : Ty) : Bool := datasOk ts && (Ty.ok t && Ty.known ts t)
set_option maxHeartbeats 1000000 in
theorem spec_KnownType (ts : List Dat) (a : Option Addr) (c : Nat) (k1 : Int) (n1 : ByteArray) (ks1 : List Ty) (aks1 : Option Addr) (cks1 : Nat) (w : World) (hM : Dat.bulks ts ≤ 1048576) (hM2 : Ty.bulk (Ty.mk k1 n1 ks1) ≤ 1048576) (hd : RdL w (Dat.ds ts) (.slice a ts.length c)) (hr : RdS w (Ty.d (Ty.mk k1 n1 ks1)) [.int .i64 k1, .string n1, .slice aks1 ks1.length cks1]) :
    Calls Try.prog 37 #[.slice a ts.length c, .agg #[.int .i64 k1, .string n1, .slice aks1 ks1.length cks1]] w fun e w' => e = .returned (.bool (knownT ts (Ty.mk k1 n1 ks1))) ∧ Below w.heap.size w w' := by
  have hB := (Below.refl w.heap.size w).alloc (Nat.le_refl _) (.cells #[.int .i64 k1, .string n1, .slice aks1 ks1.length cks1] 29)
  have hc := spec_l02Ok ts a c (w.alloc (.cells #[.int .i64 k1, .string n1, .slice aks1 ks1.length cks1] 29)) hM (hd.below hB)
  have hv := fun W (hW : Below w.heap.size w W) => spec_ValidType k1 n1 ks1 aks1 cks1 W hM2 (hr.below hW)
  have hkn := fun W (hW : Below w.heap.size w W) => spec_Known ts a c k1 n1 ks1 aks1 cks1 W (hd.below hW) (hr.below hW)
  have HX0 := hid ((Boxes.nil w).alloc #[.int .i64 k1, .string n1, .slice aks1 ks1.length cks1] 29 (0, 0))
  have HB0 := hid hB
  by_cases hk : datasOk ts = true
  case neg =>
    replace hk := (Bool.not_eq_true _).mp hk
    have HF := hid (show knownT ts (Ty.mk k1 n1 ks1) = false by rw [knownT, hk]; rfl)
    rw [hk] at hc
    have HC := hid hc
    clear hc hk hd hM hM2 hr hv hkn hB HX0
    go_enter Try.func37, Try.ntmps37
    go_wp2_with fail
    refine HC.out.mono ?_
    rintro e w1 ⟨rfl, hb⟩
    have HB1 := hid (HB0.out.trans (hb.mono HB0.out.size))
    clear hb
    go_wp2_with fail
    go_ret
    exact ⟨ret_bool HF.out.symm, HB1.out⟩
  case pos =>
    have HK0 := hid hk
    rw [hk] at hc
    have HC := hid hc
    by_cases ho : Ty.ok (Ty.mk k1 n1 ks1) = true
    case neg =>
      replace ho := (Bool.not_eq_true _).mp ho
      have HF := hid (show knownT ts (Ty.mk k1 n1 ks1) = false by rw [knownT, hk, ho]; rfl)
      rw [ho] at hv
      have HV := hid hv
      clear hc hk hd hM hM2 hr hv hkn hB ho
      go_enter Try.func37, Try.ntmps37
      go_wp2_with fail
      refine HC.out.mono ?_
      rintro e w1 ⟨rfl, hb⟩
      have HB1 := hid (HB0.out.trans (hb.mono HB0.out.size))
      have HX1 := hid (HX0.out.below hb)
      have g0 := HX1.out.at 0 0 rfl rfl
      have g1 := HX1.out.at 0 1 rfl rfl
      have g2 := HX1.out.at 0 2 rfl rfl
      clear hb
      go_wp2_with fail
      refine (HV.out _ HB1.out).mono ?_
      rintro e w2 ⟨rfl, hb⟩
      have HB2 := hid (HB1.out.trans (hb.mono HB1.out.size))
      clear hb g0 g1 g2
      go_wp2_with fail
      go_ret
      exact ⟨ret_bool HF.out.symm, HB2.out⟩
    case pos =>
      have HF := hid (show knownT ts (Ty.mk k1 n1 ks1) = Ty.known ts (Ty.mk k1 n1 ks1) by rw [knownT, hk, ho]; rfl)
      skip
      have HKN := hid hkn
      rw [ho] at hv
      have HV := hid hv
      clear hc hk hd hM hM2 hr hv hkn hB ho
      go_enter Try.func37, Try.ntmps37
      go_wp2_with fail
      refine HC.out.mono ?_
      rintro e w1 ⟨rfl, hb⟩
      have HB1 := hid (HB0.out.trans (hb.mono HB0.out.size))
      have HX1 := hid (HX0.out.below hb)
      have g0 := HX1.out.at 0 0 rfl rfl
      have g1 := HX1.out.at 0 1 rfl rfl
      have g2 := HX1.out.at 0 2 rfl rfl
      clear hb
      go_wp2_with fail
      refine (HV.out _ HB1.out).mono ?_
      rintro e w2 ⟨rfl, hb⟩
      have HB2 := hid (HB1.out.trans (hb.mono HB1.out.size))
      have HX2 := hid (HX1.out.below hb)
      clear hb g0 g1 g2
      have g0 := HX2.out.at 0 0 rfl rfl
      have g1 := HX2.out.at 0 1 rfl rfl
      have g2 := HX2.out.at 0 2 rfl rfl
      go_wp2_with fail
      refine (HKN.out _ HB2.out).mono ?_
      rintro e w3 ⟨rfl, hb⟩
      have HB3 := hid (HB2.out.trans (hb.mono HB2.out.size))
      clear hb g0 g1 g2
      go_wp2_with fail
      go_ret
      exact ⟨ret_bool HF.out.symm, HB3.out⟩
set_option maxHeartbeats 1000000 in
theorem impl_KnownType (ts : List Dat) (a : Option Addr) (c : Nat) (k1 : Int) (n1 : ByteArray) (ks1 : List Ty) (aks1 : Option Addr) (cks1 : Nat) (w : World) (hM : Dat.bulks ts ≤ 1048576) (hM2 : Ty.bulk (Ty.mk k1 n1 ks1) ≤ 1048576) (hd : RdL w (Dat.ds ts) (.slice a ts.length c)) (hr : RdS w (Ty.d (Ty.mk k1 n1 ks1)) [.int .i64 k1, .string n1, .slice aks1 ks1.length cks1]) :
    Calls Try.prog 38 #[.slice a ts.length c, .agg #[.int .i64 k1, .string n1, .slice aks1 ks1.length cks1]] w fun e w' => e = .returned (.bool (knownT ts (Ty.mk k1 n1 ks1))) ∧ Below w.heap.size w w' := by
  have hB := (Below.refl w.heap.size w).alloc (Nat.le_refl _) (.cells #[.int .i64 k1, .string n1, .slice aks1 ks1.length cks1] 29)
  have hc := impl_ValidDatas ts a c (w.alloc (.cells #[.int .i64 k1, .string n1, .slice aks1 ks1.length cks1] 29)) hM (hd.below hB)
  have hv := fun W (hW : Below w.heap.size w W) => impl_ValidType k1 n1 ks1 aks1 cks1 W hM2 (hr.below hW)
  have hkn := fun (hg : Ty.good (Ty.mk k1 n1 ks1) = true) W (hW : Below w.heap.size w W) => impl_declared ts a c k1 n1 ks1 aks1 cks1 W hg (hd.below hW) (hr.below hW)
  have HX0 := hid ((Boxes.nil w).alloc #[.int .i64 k1, .string n1, .slice aks1 ks1.length cks1] 29 (0, 0))
  have HB0 := hid hB
  by_cases hk : datasOk ts = true
  case neg =>
    replace hk := (Bool.not_eq_true _).mp hk
    have HF := hid (show knownT ts (Ty.mk k1 n1 ks1) = false by rw [knownT, hk]; rfl)
    rw [hk] at hc
    have HC := hid hc
    clear hc hk hd hM hM2 hr hv hkn hB HX0
    go_enter Try.func38, Try.ntmps38
    go_wp2_with fail
    refine HC.out.mono ?_
    rintro e w1 ⟨rfl, hb⟩
    have HB1 := hid (HB0.out.trans (hb.mono HB0.out.size))
    clear hb
    go_wp2_with fail
    go_ret
    exact ⟨ret_bool HF.out.symm, HB1.out⟩
  case pos =>
    have HK0 := hid hk
    rw [hk] at hc
    have HC := hid hc
    by_cases ho : Ty.ok (Ty.mk k1 n1 ks1) = true
    case neg =>
      replace ho := (Bool.not_eq_true _).mp ho
      have HF := hid (show knownT ts (Ty.mk k1 n1 ks1) = false by rw [knownT, hk, ho]; rfl)
      rw [ho] at hv
      have HV := hid hv
      clear hc hk hd hM hM2 hr hv hkn hB ho
      go_enter Try.func38, Try.ntmps38
      go_wp2_with fail
      refine HC.out.mono ?_
      rintro e w1 ⟨rfl, hb⟩
      have HB1 := hid (HB0.out.trans (hb.mono HB0.out.size))
      have HX1 := hid (HX0.out.below hb)
      have g0 := HX1.out.at 0 0 rfl rfl
      have g1 := HX1.out.at 0 1 rfl rfl
      have g2 := HX1.out.at 0 2 rfl rfl
      clear hb
      go_wp2_with fail
      refine (HV.out _ HB1.out).mono ?_
      rintro e w2 ⟨rfl, hb⟩
      have HB2 := hid (HB1.out.trans (hb.mono HB1.out.size))
      clear hb g0 g1 g2
      go_wp2_with fail
      go_ret
      exact ⟨ret_bool HF.out.symm, HB2.out⟩
    case pos =>
      have HF := hid (show knownT ts (Ty.mk k1 n1 ks1) = Ty.known ts (Ty.mk k1 n1 ks1) by rw [knownT, hk, ho]; rfl)
      replace hkn := hkn (Ty.ok_good ho)
      have HKN := hid hkn
      rw [ho] at hv
      have HV := hid hv
      clear hc hk hd hM hM2 hr hv hkn hB ho
      go_enter Try.func38, Try.ntmps38
      go_wp2_with fail
      refine HC.out.mono ?_
      rintro e w1 ⟨rfl, hb⟩
      have HB1 := hid (HB0.out.trans (hb.mono HB0.out.size))
      have HX1 := hid (HX0.out.below hb)
      have g0 := HX1.out.at 0 0 rfl rfl
      have g1 := HX1.out.at 0 1 rfl rfl
      have g2 := HX1.out.at 0 2 rfl rfl
      clear hb
      go_wp2_with fail
      refine (HV.out _ HB1.out).mono ?_
      rintro e w2 ⟨rfl, hb⟩
      have HB2 := hid (HB1.out.trans (hb.mono HB1.out.size))
      have HX2 := hid (HX1.out.below hb)
      clear hb g0 g1 g2
      have g0 := HX2.out.at 0 0 rfl rfl
      have g1 := HX2.out.at 0 1 rfl rfl
      have g2 := HX2.out.at 0 2 rfl rfl
      go_wp2_with fail
      refine (HKN.out _ HB2.out).mono ?_
      rintro e w3 ⟨rfl, hb⟩
      have HB3 := hid (HB2.out.trans (hb.mono HB2.out.size))
      clear hb g0 g1 g2
      go_wp2_with fail
      go_ret
      exact ⟨ret_bool HF.out.symm, HB3.out⟩
end Go.Proofs.Ytdllmbbdhfnikaa
