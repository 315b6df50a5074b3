/- Walks: slices.IndexFunc and slices.ContainsFunc over a function value known by its contract. -/
import Derived.Test.YtgpefnlpbjnjbaaFst
import Derived.Test.YtgpefnlpbjnjbaaDCon
import Derived.Test.YtgpefnlpbjnjbaaTwo
import Derived.Lib.QuietBelow
namespace Go.Proofs.Ytgpefnlpbjnjbaa
open Go.ChangeShapes Go.WideShapes Go.ChangeAt Go.RowKit
set_option linter.unusedVariables false

set_option maxRecDepth 100000 in
set_option maxHeartbeats 1000000 in
theorem indexFunc_Con_2 (F : FuncId) (eF : ∀ args (w : World), (callFunc F args).run Try.prog w = .ok (.enter F args) w) (q0 : Value) (q1 : Value) (p : Con → Bool) (Good : World → Prop) (hk : ∀ w w', Below w.heap.size w w' → Good w → Good w') (ts : List Con) (a : Option Addr) (c : Nat) (w : World) (hg : Good w) (hr : RdL w (Con.ds ts) (.slice a ts.length c))
    (hc : ∀ (n3 : ByteArray) (fs3 : List Ty) (afs3 : Option Addr) (cfs3 : Nat) (j : Nat) (W : World), ts[j]? = some (Con.mk n3 fs3) → Good W → RdS W (Con.d (Con.mk n3 fs3)) [.string n3, .slice afs3 fs3.length cfs3] → Calls Try.prog F #[.agg #[.string n3, .slice afs3 fs3.length cfs3], q0, q1] W fun e w' => e = .returned (.bool (p (Con.mk n3 fs3))) ∧ Below W.heap.size W w') :
    Calls Try.prog 116 #[.slice a ts.length c, .func (.func F) #[] #[q0, q1]] w fun e w' => e = .returned (.int .i64 (fstAt p ts)) ∧ Below w.heap.size w w' := by
  obtain ⟨_, _, e, h2, h3, h4⟩ := hr.eCon
  simp only [Value.slice.injEq, true_and] at e
  obtain ⟨rfl, rfl⟩ := e
  have H4 := hid h4
  have HC0 := hid hc
  have HK := hid hk
  have HG := hid hg
  clear hr h4 hc hk hg
  go_enter Try.func116, Try.ntmps116
  go_wp2_with fail
  go_loopw [5, 8] (fun _ i wr => ∃ (j : Nat), j ≤ ts.length ∧ i = .int .i64 j ∧ Hid (∀ (i : Nat) t, i < j → ts[i]? = some t → p t = false) ∧ Below w.heap.size w wr) (fun _ i _ => ts.length - (intOf i).toNat)
  case atStart => exact ⟨0, by omega, rfl, fun i t hi => absurd hi (by omega), Below.refl _ _⟩
  case round =>
    obtain ⟨j, hj, rfl, HJ, hb⟩ := hrel
    by_cases hlt : j < ts.length
    case pos =>
      obtain ⟨b, o, rfl, hbl, hall⟩ := H4.out (by omega)
      obtain ⟨t, ht⟩ : ∃ t, ts[j]? = some t := ⟨_, List.getElem?_eq_getElem hlt⟩
      obtain ⟨n3, fs3⟩ := t
      obtain ⟨afs3, cfs3, q_0, q_1, hrk⟩ := hall j n3 fs3 ht
      clear hall H4
      have d0 := (hb.cell (p := ⟨b, o + j * 2, none⟩) hbl).trans q_0
      have d1 := (hb.cell (p := ⟨b, o + j * 2 + 1, none⟩) hbl).trans q_1
      have hcc := fun hG => HC0.out n3 fs3 afs3 cfs3 j wr ht hG (hrk.below hb)
      have HT := hid ht
      have HGW := hid (HK.out _ _ hb HG.out)
      by_cases hq : p (Con.mk n3 fs3) = true
      case pos =>
        rw [hq] at hcc
        have HC := hid hcc
        have HQ := hid hq
        clear ht hrk q_0 q_1 hcc hq HC0
        go_wp2_with fail
        refine (HC.out HGW.out).mono ?_
        clear HC
        rintro e w1 ⟨rfl, hb1⟩
        have hbw := hb.trans (hb1.mono hb.size)
        clear hb1
        go_wp2_with fail
        go_ret
        exact ⟨ret_int (fstAt_yes p ts j _ HT.out HQ.out HJ.out).symm, hbw⟩
      case neg =>
        replace hq := (Bool.not_eq_true _).mp hq
        rw [hq] at hcc
        have HC := hid hcc
        have HQ := hid hq
        clear ht hrk q_0 q_1 hcc hq HC0
        go_wp2_with fail
        refine (HC.out HGW.out).mono ?_
        clear HC
        rintro e w1 ⟨rfl, hb1⟩
        have hbw := hb.trans (hb1.mono hb.size)
        clear hb1
        go_wp2_with fail
        go_roundw
        case rel => exact ⟨j + 1, by omega, by go_num, fun i t hi hti => (Nat.lt_succ_iff_lt_or_eq.1 hi).elim (fun hi => HJ.out i t hi hti) (fun he => by subst he; obtain rfl := Option.some.inj (hti.symm.trans HT.out); exact HQ.out), hbw⟩
        case measure => simp [intOf]; omega
    case neg =>
      go_wp2_with fail
      go_ret
      exact ⟨ret_int (fstAt_no p ts fun i t hti => HJ.out i t (by have := (List.getElem?_eq_some_iff.1 hti).1; omega) hti).symm, hb⟩
theorem contains_Con_2 (F : FuncId) (eF : ∀ args (w : World), (callFunc F args).run Try.prog w = .ok (.enter F args) w) (q0 : Value) (q1 : Value) (p : Con → Bool) (Good : World → Prop) (hk : ∀ w w', Below w.heap.size w w' → Good w → Good w') (ts : List Con) (a : Option Addr) (c : Nat) (w : World) (hg : Good w) (hr : RdL w (Con.ds ts) (.slice a ts.length c))
    (hc : ∀ (n3 : ByteArray) (fs3 : List Ty) (afs3 : Option Addr) (cfs3 : Nat) (j : Nat) (W : World), ts[j]? = some (Con.mk n3 fs3) → Good W → RdS W (Con.d (Con.mk n3 fs3)) [.string n3, .slice afs3 fs3.length cfs3] → Calls Try.prog F #[.agg #[.string n3, .slice afs3 fs3.length cfs3], q0, q1] W fun e w' => e = .returned (.bool (p (Con.mk n3 fs3))) ∧ Below W.heap.size W w') :
    Calls Try.prog 63 #[.slice a ts.length c, .func (.func F) #[] #[q0, q1]] w fun e w' => e = .returned (.bool (ts.any p)) ∧ Below w.heap.size w w' := by
  have HC := hid (indexFunc_Con_2 F eF q0 q1 p Good hk ts a c w hg hr hc)
  have HR := hid (fstAt_any p ts)
  clear hr hc hk hg eF
  generalize fstAt p ts = r at HC HR
  generalize ts.any p = bb at HR ⊢
  go_enter Try.func63, Try.ntmps63
  go_wp2_with fail
  refine HC.out.mono ?_
  rintro e w1 ⟨rfl, hb⟩
  go_wp2_with fail
  go_ret
  exact ⟨ret_bool HR.out, hb⟩

end Go.Proofs.Ytgpefnlpbjnjbaa
