/- Walks: slices.IndexFunc and slices.ContainsFunc over a function value known by its contract. -/
import Derived.Test.YtgpefnlpbjnjbaaGreatFst
import Derived.Test.YtgpefnlpbjnjbaaGreatDTy
import Derived.Test.YtgpefnlpbjnjbaaGreatTwo
import Derived.Lib.QuietBelow
namespace Go.Proofs.YtgpefnlpbjnjbaaGreat
open Go.ChangeShapes Go.WideShapes Go.ChangeAt Go.RowKit
set_option linter.unusedVariables false

set_option maxRecDepth 100000 in
set_option maxHeartbeats 1000000 in
theorem indexFunc_Ty_1 (F : FuncId) (eF : ∀ args (w : World), (callFunc F args).run Tryz.prog w = .ok (.enter F args) w) (q0 : Value) (p : Ty → Bool) (Good : World → Prop) (hk : ∀ w w', Below w.heap.size w w' → Good w → Good w') (ts : List Ty) (a : Option Addr) (c : Nat) (w : World) (hg : Good w) (hr : RdL w (Ty.ds ts) (.slice a ts.length c))
    (hc : ∀ (k3 : Int) (n3 : ByteArray) (ks3 : List Ty) (aks3 : Option Addr) (cks3 : Nat) (j : Nat) (W : World), ts[j]? = some (Ty.mk k3 n3 ks3) → Good W → RdS W (Ty.d (Ty.mk k3 n3 ks3)) [.int .i64 k3, .string n3, .slice aks3 ks3.length cks3] → Calls Tryz.prog F #[.agg #[.int .i64 k3, .string n3, .slice aks3 ks3.length cks3], q0] W fun e w' => e = .returned (.bool (p (Ty.mk k3 n3 ks3))) ∧ Below W.heap.size W w') :
    Calls Tryz.prog 150 #[.slice a ts.length c, .func (.func F) #[] #[q0]] w fun e w' => e = .returned (.int .i64 (fstAt p ts)) ∧ Below w.heap.size w w' := by
  obtain ⟨_, _, e, h2, h3, h4⟩ := hr.eTy
  simp only [Value.slice.injEq, true_and] at e
  obtain ⟨rfl, rfl⟩ := e
  have H4 := hid h4
  have HC0 := hid hc
  have HK := hid hk
  have HG := hid hg
  clear hr h4 hc hk hg
  go_enter Tryz.func150, Tryz.ntmps150
  go_wp2_with fail
  go_loopw [5, 8] (fun _ i wr => ∃ (j : Nat), j ≤ ts.length ∧ i = .int .i64 j ∧ Hid (∀ (i : Nat) t, i < j → ts[i]? = some t → p t = false) ∧ Below w.heap.size w wr) (fun _ i _ => ts.length - (intOf i).toNat)
  case atStart => exact ⟨0, by omega, rfl, fun i t hi => absurd hi (by omega), Below.refl _ _⟩
  case round =>
    obtain ⟨j, hj, rfl, HJ, hb⟩ := hrel
    by_cases hlt : j < ts.length
    case pos =>
      obtain ⟨b, o, rfl, hbl, hall⟩ := H4.out (by omega)
      obtain ⟨t, ht⟩ : ∃ t, ts[j]? = some t := ⟨_, List.getElem?_eq_getElem hlt⟩
      obtain ⟨k3, n3, ks3⟩ := t
      obtain ⟨aks3, cks3, q_0, q_1, q_2, hrk⟩ := hall j k3 n3 ks3 ht
      clear hall H4
      have d0 := (hb.cell (p := ⟨b, o + j * 3, none⟩) hbl).trans q_0
      have d1 := (hb.cell (p := ⟨b, o + j * 3 + 1, none⟩) hbl).trans q_1
      have d2 := (hb.cell (p := ⟨b, o + j * 3 + 2, none⟩) hbl).trans q_2
      have hcc := fun hG => HC0.out k3 n3 ks3 aks3 cks3 j wr ht hG (hrk.below hb)
      have HT := hid ht
      have HGW := hid (HK.out _ _ hb HG.out)
      by_cases hq : p (Ty.mk k3 n3 ks3) = true
      case pos =>
        rw [hq] at hcc
        have HC := hid hcc
        have HQ := hid hq
        clear ht hrk q_0 q_1 q_2 hcc hq HC0
        go_wp2_with fail
        refine (HC.out HGW.out).mono ?_
        clear HC
        rintro e w1 ⟨rfl, hb1⟩
        have hbw := hb.trans (hb1.mono hb.size)
        clear hb1
        go_wp2_with fail
        go_ret
        exact ⟨ret_int (fstAt_yes p ts j _ HT.out HQ.out HJ.out).symm, hbw⟩
      case neg =>
        replace hq := (Bool.not_eq_true _).mp hq
        rw [hq] at hcc
        have HC := hid hcc
        have HQ := hid hq
        clear ht hrk q_0 q_1 q_2 hcc hq HC0
        go_wp2_with fail
        refine (HC.out HGW.out).mono ?_
        clear HC
        rintro e w1 ⟨rfl, hb1⟩
        have hbw := hb.trans (hb1.mono hb.size)
        clear hb1
        go_wp2_with fail
        go_roundw
        case rel => exact ⟨j + 1, by omega, by go_num, fun i t hi hti => (Nat.lt_succ_iff_lt_or_eq.1 hi).elim (fun hi => HJ.out i t hi hti) (fun he => by subst he; obtain rfl := Option.some.inj (hti.symm.trans HT.out); exact HQ.out), hbw⟩
        case measure => simp [intOf]; omega
    case neg =>
      go_wp2_with fail
      go_ret
      exact ⟨ret_int (fstAt_no p ts fun i t hti => HJ.out i t (by have := (List.getElem?_eq_some_iff.1 hti).1; omega) hti).symm, hb⟩
theorem contains_Ty_1 (F : FuncId) (eF : ∀ args (w : World), (callFunc F args).run Tryz.prog w = .ok (.enter F args) w) (q0 : Value) (p : Ty → Bool) (Good : World → Prop) (hk : ∀ w w', Below w.heap.size w w' → Good w → Good w') (ts : List Ty) (a : Option Addr) (c : Nat) (w : World) (hg : Good w) (hr : RdL w (Ty.ds ts) (.slice a ts.length c))
    (hc : ∀ (k3 : Int) (n3 : ByteArray) (ks3 : List Ty) (aks3 : Option Addr) (cks3 : Nat) (j : Nat) (W : World), ts[j]? = some (Ty.mk k3 n3 ks3) → Good W → RdS W (Ty.d (Ty.mk k3 n3 ks3)) [.int .i64 k3, .string n3, .slice aks3 ks3.length cks3] → Calls Tryz.prog F #[.agg #[.int .i64 k3, .string n3, .slice aks3 ks3.length cks3], q0] W fun e w' => e = .returned (.bool (p (Ty.mk k3 n3 ks3))) ∧ Below W.heap.size W w') :
    Calls Tryz.prog 105 #[.slice a ts.length c, .func (.func F) #[] #[q0]] w fun e w' => e = .returned (.bool (ts.any p)) ∧ Below w.heap.size w w' := by
  have HC := hid (indexFunc_Ty_1 F eF q0 p Good hk ts a c w hg hr hc)
  have HR := hid (fstAt_any p ts)
  clear hr hc hk hg eF
  generalize fstAt p ts = r at HC HR
  generalize ts.any p = bb at HR ⊢
  go_enter Tryz.func105, Tryz.ntmps105
  go_wp2_with fail
  refine HC.out.mono ?_
  rintro e w1 ⟨rfl, hb⟩
  go_wp2_with fail
  go_ret
  exact ⟨ret_bool HR.out, hb⟩

end Go.Proofs.YtgpefnlpbjnjbaaGreat
