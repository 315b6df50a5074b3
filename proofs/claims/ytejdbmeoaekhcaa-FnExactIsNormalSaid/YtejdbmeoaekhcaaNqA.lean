/- Merged texts: Fst AnyCo AnyCoN NorI CoErase NorJ BkValid DCl DFr DTh DNe NdPlain CoEraseI AnyIn BkValidI EraB MaI Mach MaS. No condition. -/
import Derived.Test.YtejdbmeoaekhcaaFrame
import Derived.Test.YtejdbmeoaekhcaaDCo
import Derived.Test.YtejdbmeoaekhcaaTwo
import Derived.Lib.QuietBelow
import Derived.Test.YtejdbmeoaekhcaaAtC
import Derived.Test.YtejdbmeoaekhcaaNorP
import Derived.Test.YtejdbmeoaekhcaaCoFits
import Derived.Test.YtejdbmeoaekhcaaCoRefs
import Derived.Test.YtejdbmeoaekhcaaDBk
import Derived.Test.YtejdbmeoaekhcaaSc
import Derived.Test.YtejdbmeoaekhcaaCoClosed
/- was: Fst -/
namespace Go.Proofs.Ytejdbmeoaekhcaa
open Go.RowKit

/-- The first place, or -1. -/
def fstAt {α : Type} (p : α → Bool) : List α → Int
  | [] => -1
  | t :: ts => if p t then 0 else (if fstAt p ts < 0 then -1 else fstAt p ts + 1)
theorem fstAt_ge {α : Type} (p : α → Bool) : ∀ ts : List α, -1 ≤ fstAt p ts
  | [] => by simp [fstAt]
  | t :: ts => by have := fstAt_ge p ts; unfold fstAt; split <;> (try split) <;> omega
theorem fstAt_lt {α : Type} (p : α → Bool) : ∀ ts : List α, fstAt p ts < ts.length
  | [] => by simp [fstAt]
  | t :: ts => by have := fstAt_lt p ts; simp only [fstAt, List.length_cons]; split <;> (try split) <;> omega
theorem fstAt_no {α : Type} (p : α → Bool) : ∀ ts : List α, (∀ (j : Nat) t, ts[j]? = some t → p t = false) → fstAt p ts = -1
  | [], _ => rfl
  | t :: ts, h => by rw [fstAt, h 0 t rfl, fstAt_no p ts fun j u hj => h (j + 1) u (by simpa using hj)]; simp
theorem fstAt_yes {α : Type} (p : α → Bool) : ∀ (ts : List α) (j : Nat) (t : α), ts[j]? = some t → p t = true → (∀ (i : Nat) u, i < j → ts[i]? = some u → p u = false) → fstAt p ts = j
  | [], j, t, h, _, _ => by simp at h
  | u :: ts, 0, t, h, e, _ => by simp at h; subst h; rw [fstAt, e]; simp
  | u :: ts, j + 1, t, h, e, hb => by
    rw [fstAt, hb 0 u (by omega) rfl, fstAt_yes p ts j t (by simpa using h) e fun i v hi hv => hb (i + 1) v (by omega) (by simpa using hv)]
    have : ¬ ((j : Int) < 0) := by omega
    simp [this]
theorem fstAt_any {α : Type} (p : α → Bool) : ∀ ts : List α, decide (0 ≤ fstAt p ts) = ts.any p
  | [] => by simp [fstAt]
  | t :: ts => by
    have h := fstAt_any p ts
    rw [List.any_cons, ← h, fstAt]
    cases p t
    · by_cases h0 : fstAt p ts < 0
      · simp [h0] <;> omega
      · simp [h0] <;> omega
    · simp
end Go.Proofs.Ytejdbmeoaekhcaa
/- was: AnyCo -/
namespace Go.Proofs.Ytejdbmeoaekhcaa
open Go.ChangeShapes Go.WideShapes Go.ChangeAt Go.RowKit
set_option linter.unusedVariables false

set_option maxRecDepth 100000 in
set_option maxHeartbeats 1000000 in
theorem indexFunc_Co_0 (F : FuncId) (eF : ∀ args (w : World), (callFunc F args).run Try.prog w = .ok (.enter F args) w)  (p : Co → Bool) (Good : World → Prop) (hk : ∀ w w', Below w.heap.size w w' → Good w → Good w') (ts : List Co) (a : Option Addr) (c : Nat) (w : World) (hg : Good w) (hr : RdL w (Co.ds ts) (.slice a ts.length c))
    (hc : ∀ (k3 : Int) (v3 : Int) (ds3 : List Int) (ks3 : List Co) (ads3 : Option Addr) (cds3 : Nat) (aks3 : Option Addr) (cks3 : Nat) (j : Nat) (W : World), ts[j]? = some (Co.mk k3 v3 ds3 ks3) → Good W → RdS W (Co.d (Co.mk k3 v3 ds3 ks3)) [.int .i64 k3, .int .i64 v3, .slice ads3 ds3.length cds3, .slice aks3 ks3.length cks3] → Calls Try.prog F #[.agg #[.int .i64 k3, .int .i64 v3, .slice ads3 ds3.length cds3, .slice aks3 ks3.length cks3]] W fun e w' => e = .returned (.bool (p (Co.mk k3 v3 ds3 ks3))) ∧ Below W.heap.size W w') :
    Calls Try.prog 88 #[.slice a ts.length c, .func (.func F) #[] #[]] w fun e w' => e = .returned (.int .i64 (fstAt p ts)) ∧ Below w.heap.size w w' := by
  obtain ⟨_, _, e, h2, h3, h4⟩ := hr.eCo
  simp only [Value.slice.injEq, true_and] at e
  obtain ⟨rfl, rfl⟩ := e
  have H4 := hid h4
  have HC0 := hid hc
  have HK := hid hk
  have HG := hid hg
  clear hr h4 hc hk hg
  go_enter Try.func88, Try.ntmps88
  go_wp2_with fail
  go_loopw [5, 8] (fun _ i wr => ∃ (j : Nat), j ≤ ts.length ∧ i = .int .i64 j ∧ Hid (∀ (i : Nat) t, i < j → ts[i]? = some t → p t = false) ∧ Below w.heap.size w wr) (fun _ i _ => ts.length - (intOf i).toNat)
  case atStart => exact ⟨0, by omega, rfl, fun i t hi => absurd hi (by omega), Below.refl _ _⟩
  case round =>
    obtain ⟨j, hj, rfl, HJ, hb⟩ := hrel
    by_cases hlt : j < ts.length
    case pos =>
      obtain ⟨b, o, rfl, hbl, hall⟩ := H4.out (by omega)
      obtain ⟨t, ht⟩ : ∃ t, ts[j]? = some t := ⟨_, List.getElem?_eq_getElem hlt⟩
      obtain ⟨k3, v3, ds3, ks3⟩ := t
      obtain ⟨ads3, cds3, aks3, cks3, q_0, q_1, q_2, q_3, hrk⟩ := hall j k3 v3 ds3 ks3 ht
      clear hall H4
      have d0 := (hb.cell (p := ⟨b, o + j * 4, none⟩) hbl).trans q_0
      have d1 := (hb.cell (p := ⟨b, o + j * 4 + 1, none⟩) hbl).trans q_1
      have d2 := (hb.cell (p := ⟨b, o + j * 4 + 2, none⟩) hbl).trans q_2
      have d3 := (hb.cell (p := ⟨b, o + j * 4 + 3, none⟩) hbl).trans q_3
      have hcc := fun hG => HC0.out k3 v3 ds3 ks3 ads3 cds3 aks3 cks3 j wr ht hG (hrk.below hb)
      have HT := hid ht
      have HGW := hid (HK.out _ _ hb HG.out)
      by_cases hq : p (Co.mk k3 v3 ds3 ks3) = true
      case pos =>
        rw [hq] at hcc
        have HC := hid hcc
        have HQ := hid hq
        clear ht hrk q_0 q_1 q_2 q_3 hcc hq HC0
        go_wp2_with fail
        refine (HC.out HGW.out).mono ?_
        clear HC
        rintro e w1 ⟨rfl, hb1⟩
        have hbw := hb.trans (hb1.mono hb.size)
        clear hb1
        go_wp2_with fail
        go_ret
        exact ⟨ret_int (fstAt_yes p ts j _ HT.out HQ.out HJ.out).symm, hbw⟩
      case neg =>
        replace hq := (Bool.not_eq_true _).mp hq
        rw [hq] at hcc
        have HC := hid hcc
        have HQ := hid hq
        clear ht hrk q_0 q_1 q_2 q_3 hcc hq HC0
        go_wp2_with fail
        refine (HC.out HGW.out).mono ?_
        clear HC
        rintro e w1 ⟨rfl, hb1⟩
        have hbw := hb.trans (hb1.mono hb.size)
        clear hb1
        go_wp2_with fail
        go_roundw
        case rel => exact ⟨j + 1, by omega, by go_num, fun i t hi hti => (Nat.lt_succ_iff_lt_or_eq.1 hi).elim (fun hi => HJ.out i t hi hti) (fun he => by subst he; obtain rfl := Option.some.inj (hti.symm.trans HT.out); exact HQ.out), hbw⟩
        case measure => simp [intOf]; omega
    case neg =>
      go_wp2_with fail
      go_ret
      exact ⟨ret_int (fstAt_no p ts fun i t hti => HJ.out i t (by have := (List.getElem?_eq_some_iff.1 hti).1; omega) hti).symm, hb⟩
theorem contains_Co_0 (F : FuncId) (eF : ∀ args (w : World), (callFunc F args).run Try.prog w = .ok (.enter F args) w)  (p : Co → Bool) (Good : World → Prop) (hk : ∀ w w', Below w.heap.size w w' → Good w → Good w') (ts : List Co) (a : Option Addr) (c : Nat) (w : World) (hg : Good w) (hr : RdL w (Co.ds ts) (.slice a ts.length c))
    (hc : ∀ (k3 : Int) (v3 : Int) (ds3 : List Int) (ks3 : List Co) (ads3 : Option Addr) (cds3 : Nat) (aks3 : Option Addr) (cks3 : Nat) (j : Nat) (W : World), ts[j]? = some (Co.mk k3 v3 ds3 ks3) → Good W → RdS W (Co.d (Co.mk k3 v3 ds3 ks3)) [.int .i64 k3, .int .i64 v3, .slice ads3 ds3.length cds3, .slice aks3 ks3.length cks3] → Calls Try.prog F #[.agg #[.int .i64 k3, .int .i64 v3, .slice ads3 ds3.length cds3, .slice aks3 ks3.length cks3]] W fun e w' => e = .returned (.bool (p (Co.mk k3 v3 ds3 ks3))) ∧ Below W.heap.size W w') :
    Calls Try.prog 70 #[.slice a ts.length c, .func (.func F) #[] #[]] w fun e w' => e = .returned (.bool (ts.any p)) ∧ Below w.heap.size w w' := by
  have HC := hid (indexFunc_Co_0 F eF p Good hk ts a c w hg hr hc)
  have HR := hid (fstAt_any p ts)
  clear hr hc hk hg eF
  generalize fstAt p ts = r at HC HR
  generalize ts.any p = bb at HR ⊢
  go_enter Try.func70, Try.ntmps70
  go_wp2_with fail
  refine HC.out.mono ?_
  rintro e w1 ⟨rfl, hb⟩
  go_wp2_with fail
  go_ret
  exact ⟨ret_bool HR.out, hb⟩

set_option maxRecDepth 100000 in
set_option maxHeartbeats 1000000 in
theorem indexFunc_Co_1 (F : FuncId) (eF : ∀ args (w : World), (callFunc F args).run Try.prog w = .ok (.enter F args) w) (q0 : Value) (p : Co → Bool) (Good : World → Prop) (hk : ∀ w w', Below w.heap.size w w' → Good w → Good w') (ts : List Co) (a : Option Addr) (c : Nat) (w : World) (hg : Good w) (hr : RdL w (Co.ds ts) (.slice a ts.length c))
    (hc : ∀ (k3 : Int) (v3 : Int) (ds3 : List Int) (ks3 : List Co) (ads3 : Option Addr) (cds3 : Nat) (aks3 : Option Addr) (cks3 : Nat) (j : Nat) (W : World), ts[j]? = some (Co.mk k3 v3 ds3 ks3) → Good W → RdS W (Co.d (Co.mk k3 v3 ds3 ks3)) [.int .i64 k3, .int .i64 v3, .slice ads3 ds3.length cds3, .slice aks3 ks3.length cks3] → Calls Try.prog F #[.agg #[.int .i64 k3, .int .i64 v3, .slice ads3 ds3.length cds3, .slice aks3 ks3.length cks3], q0] W fun e w' => e = .returned (.bool (p (Co.mk k3 v3 ds3 ks3))) ∧ Below W.heap.size W w') :
    Calls Try.prog 88 #[.slice a ts.length c, .func (.func F) #[] #[q0]] w fun e w' => e = .returned (.int .i64 (fstAt p ts)) ∧ Below w.heap.size w w' := by
  obtain ⟨_, _, e, h2, h3, h4⟩ := hr.eCo
  simp only [Value.slice.injEq, true_and] at e
  obtain ⟨rfl, rfl⟩ := e
  have H4 := hid h4
  have HC0 := hid hc
  have HK := hid hk
  have HG := hid hg
  clear hr h4 hc hk hg
  go_enter Try.func88, Try.ntmps88
  go_wp2_with fail
  go_loopw [5, 8] (fun _ i wr => ∃ (j : Nat), j ≤ ts.length ∧ i = .int .i64 j ∧ Hid (∀ (i : Nat) t, i < j → ts[i]? = some t → p t = false) ∧ Below w.heap.size w wr) (fun _ i _ => ts.length - (intOf i).toNat)
  case atStart => exact ⟨0, by omega, rfl, fun i t hi => absurd hi (by omega), Below.refl _ _⟩
  case round =>
    obtain ⟨j, hj, rfl, HJ, hb⟩ := hrel
    by_cases hlt : j < ts.length
    case pos =>
      obtain ⟨b, o, rfl, hbl, hall⟩ := H4.out (by omega)
      obtain ⟨t, ht⟩ : ∃ t, ts[j]? = some t := ⟨_, List.getElem?_eq_getElem hlt⟩
      obtain ⟨k3, v3, ds3, ks3⟩ := t
      obtain ⟨ads3, cds3, aks3, cks3, q_0, q_1, q_2, q_3, hrk⟩ := hall j k3 v3 ds3 ks3 ht
      clear hall H4
      have d0 := (hb.cell (p := ⟨b, o + j * 4, none⟩) hbl).trans q_0
      have d1 := (hb.cell (p := ⟨b, o + j * 4 + 1, none⟩) hbl).trans q_1
      have d2 := (hb.cell (p := ⟨b, o + j * 4 + 2, none⟩) hbl).trans q_2
      have d3 := (hb.cell (p := ⟨b, o + j * 4 + 3, none⟩) hbl).trans q_3
      have hcc := fun hG => HC0.out k3 v3 ds3 ks3 ads3 cds3 aks3 cks3 j wr ht hG (hrk.below hb)
      have HT := hid ht
      have HGW := hid (HK.out _ _ hb HG.out)
      by_cases hq : p (Co.mk k3 v3 ds3 ks3) = true
      case pos =>
        rw [hq] at hcc
        have HC := hid hcc
        have HQ := hid hq
        clear ht hrk q_0 q_1 q_2 q_3 hcc hq HC0
        go_wp2_with fail
        refine (HC.out HGW.out).mono ?_
        clear HC
        rintro e w1 ⟨rfl, hb1⟩
        have hbw := hb.trans (hb1.mono hb.size)
        clear hb1
        go_wp2_with fail
        go_ret
        exact ⟨ret_int (fstAt_yes p ts j _ HT.out HQ.out HJ.out).symm, hbw⟩
      case neg =>
        replace hq := (Bool.not_eq_true _).mp hq
        rw [hq] at hcc
        have HC := hid hcc
        have HQ := hid hq
        clear ht hrk q_0 q_1 q_2 q_3 hcc hq HC0
        go_wp2_with fail
        refine (HC.out HGW.out).mono ?_
        clear HC
        rintro e w1 ⟨rfl, hb1⟩
        have hbw := hb.trans (hb1.mono hb.size)
        clear hb1
        go_wp2_with fail
        go_roundw
        case rel => exact ⟨j + 1, by omega, by go_num, fun i t hi hti => (Nat.lt_succ_iff_lt_or_eq.1 hi).elim (fun hi => HJ.out i t hi hti) (fun he => by subst he; obtain rfl := Option.some.inj (hti.symm.trans HT.out); exact HQ.out), hbw⟩
        case measure => simp [intOf]; omega
    case neg =>
      go_wp2_with fail
      go_ret
      exact ⟨ret_int (fstAt_no p ts fun i t hti => HJ.out i t (by have := (List.getElem?_eq_some_iff.1 hti).1; omega) hti).symm, hb⟩
theorem contains_Co_1 (F : FuncId) (eF : ∀ args (w : World), (callFunc F args).run Try.prog w = .ok (.enter F args) w) (q0 : Value) (p : Co → Bool) (Good : World → Prop) (hk : ∀ w w', Below w.heap.size w w' → Good w → Good w') (ts : List Co) (a : Option Addr) (c : Nat) (w : World) (hg : Good w) (hr : RdL w (Co.ds ts) (.slice a ts.length c))
    (hc : ∀ (k3 : Int) (v3 : Int) (ds3 : List Int) (ks3 : List Co) (ads3 : Option Addr) (cds3 : Nat) (aks3 : Option Addr) (cks3 : Nat) (j : Nat) (W : World), ts[j]? = some (Co.mk k3 v3 ds3 ks3) → Good W → RdS W (Co.d (Co.mk k3 v3 ds3 ks3)) [.int .i64 k3, .int .i64 v3, .slice ads3 ds3.length cds3, .slice aks3 ks3.length cks3] → Calls Try.prog F #[.agg #[.int .i64 k3, .int .i64 v3, .slice ads3 ds3.length cds3, .slice aks3 ks3.length cks3], q0] W fun e w' => e = .returned (.bool (p (Co.mk k3 v3 ds3 ks3))) ∧ Below W.heap.size W w') :
    Calls Try.prog 70 #[.slice a ts.length c, .func (.func F) #[] #[q0]] w fun e w' => e = .returned (.bool (ts.any p)) ∧ Below w.heap.size w w' := by
  have HC := hid (indexFunc_Co_1 F eF q0 p Good hk ts a c w hg hr hc)
  have HR := hid (fstAt_any p ts)
  clear hr hc hk hg eF
  generalize fstAt p ts = r at HC HR
  generalize ts.any p = bb at HR ⊢
  go_enter Try.func70, Try.ntmps70
  go_wp2_with fail
  refine HC.out.mono ?_
  rintro e w1 ⟨rfl, hb⟩
  go_wp2_with fail
  go_ret
  exact ⟨ret_bool HR.out, hb⟩

set_option maxRecDepth 100000 in
set_option maxHeartbeats 1000000 in
theorem indexFunc_Co_2 (F : FuncId) (eF : ∀ args (w : World), (callFunc F args).run Try.prog w = .ok (.enter F args) w) (q0 : Value) (q1 : Value) (p : Co → Bool) (Good : World → Prop) (hk : ∀ w w', Below w.heap.size w w' → Good w → Good w') (ts : List Co) (a : Option Addr) (c : Nat) (w : World) (hg : Good w) (hr : RdL w (Co.ds ts) (.slice a ts.length c))
    (hc : ∀ (k3 : Int) (v3 : Int) (ds3 : List Int) (ks3 : List Co) (ads3 : Option Addr) (cds3 : Nat) (aks3 : Option Addr) (cks3 : Nat) (j : Nat) (W : World), ts[j]? = some (Co.mk k3 v3 ds3 ks3) → Good W → RdS W (Co.d (Co.mk k3 v3 ds3 ks3)) [.int .i64 k3, .int .i64 v3, .slice ads3 ds3.length cds3, .slice aks3 ks3.length cks3] → Calls Try.prog F #[.agg #[.int .i64 k3, .int .i64 v3, .slice ads3 ds3.length cds3, .slice aks3 ks3.length cks3], q0, q1] W fun e w' => e = .returned (.bool (p (Co.mk k3 v3 ds3 ks3))) ∧ Below W.heap.size W w') :
    Calls Try.prog 88 #[.slice a ts.length c, .func (.func F) #[] #[q0, q1]] w fun e w' => e = .returned (.int .i64 (fstAt p ts)) ∧ Below w.heap.size w w' := by
  obtain ⟨_, _, e, h2, h3, h4⟩ := hr.eCo
  simp only [Value.slice.injEq, true_and] at e
  obtain ⟨rfl, rfl⟩ := e
  have H4 := hid h4
  have HC0 := hid hc
  have HK := hid hk
  have HG := hid hg
  clear hr h4 hc hk hg
  go_enter Try.func88, Try.ntmps88
  go_wp2_with fail
  go_loopw [5, 8] (fun _ i wr => ∃ (j : Nat), j ≤ ts.length ∧ i = .int .i64 j ∧ Hid (∀ (i : Nat) t, i < j → ts[i]? = some t → p t = false) ∧ Below w.heap.size w wr) (fun _ i _ => ts.length - (intOf i).toNat)
  case atStart => exact ⟨0, by omega, rfl, fun i t hi => absurd hi (by omega), Below.refl _ _⟩
  case round =>
    obtain ⟨j, hj, rfl, HJ, hb⟩ := hrel
    by_cases hlt : j < ts.length
    case pos =>
      obtain ⟨b, o, rfl, hbl, hall⟩ := H4.out (by omega)
      obtain ⟨t, ht⟩ : ∃ t, ts[j]? = some t := ⟨_, List.getElem?_eq_getElem hlt⟩
      obtain ⟨k3, v3, ds3, ks3⟩ := t
      obtain ⟨ads3, cds3, aks3, cks3, q_0, q_1, q_2, q_3, hrk⟩ := hall j k3 v3 ds3 ks3 ht
      clear hall H4
      have d0 := (hb.cell (p := ⟨b, o + j * 4, none⟩) hbl).trans q_0
      have d1 := (hb.cell (p := ⟨b, o + j * 4 + 1, none⟩) hbl).trans q_1
      have d2 := (hb.cell (p := ⟨b, o + j * 4 + 2, none⟩) hbl).trans q_2
      have d3 := (hb.cell (p := ⟨b, o + j * 4 + 3, none⟩) hbl).trans q_3
      have hcc := fun hG => HC0.out k3 v3 ds3 ks3 ads3 cds3 aks3 cks3 j wr ht hG (hrk.below hb)
      have HT := hid ht
      have HGW := hid (HK.out _ _ hb HG.out)
      by_cases hq : p (Co.mk k3 v3 ds3 ks3) = true
      case pos =>
        rw [hq] at hcc
        have HC := hid hcc
        have HQ := hid hq
        clear ht hrk q_0 q_1 q_2 q_3 hcc hq HC0
        go_wp2_with fail
        refine (HC.out HGW.out).mono ?_
        clear HC
        rintro e w1 ⟨rfl, hb1⟩
        have hbw := hb.trans (hb1.mono hb.size)
        clear hb1
        go_wp2_with fail
        go_ret
        exact ⟨ret_int (fstAt_yes p ts j _ HT.out HQ.out HJ.out).symm, hbw⟩
      case neg =>
        replace hq := (Bool.not_eq_true _).mp hq
        rw [hq] at hcc
        have HC := hid hcc
        have HQ := hid hq
        clear ht hrk q_0 q_1 q_2 q_3 hcc hq HC0
        go_wp2_with fail
        refine (HC.out HGW.out).mono ?_
        clear HC
        rintro e w1 ⟨rfl, hb1⟩
        have hbw := hb.trans (hb1.mono hb.size)
        clear hb1
        go_wp2_with fail
        go_roundw
        case rel => exact ⟨j + 1, by omega, by go_num, fun i t hi hti => (Nat.lt_succ_iff_lt_or_eq.1 hi).elim (fun hi => HJ.out i t hi hti) (fun he => by subst he; obtain rfl := Option.some.inj (hti.symm.trans HT.out); exact HQ.out), hbw⟩
        case measure => simp [intOf]; omega
    case neg =>
      go_wp2_with fail
      go_ret
      exact ⟨ret_int (fstAt_no p ts fun i t hti => HJ.out i t (by have := (List.getElem?_eq_some_iff.1 hti).1; omega) hti).symm, hb⟩
theorem contains_Co_2 (F : FuncId) (eF : ∀ args (w : World), (callFunc F args).run Try.prog w = .ok (.enter F args) w) (q0 : Value) (q1 : Value) (p : Co → Bool) (Good : World → Prop) (hk : ∀ w w', Below w.heap.size w w' → Good w → Good w') (ts : List Co) (a : Option Addr) (c : Nat) (w : World) (hg : Good w) (hr : RdL w (Co.ds ts) (.slice a ts.length c))
    (hc : ∀ (k3 : Int) (v3 : Int) (ds3 : List Int) (ks3 : List Co) (ads3 : Option Addr) (cds3 : Nat) (aks3 : Option Addr) (cks3 : Nat) (j : Nat) (W : World), ts[j]? = some (Co.mk k3 v3 ds3 ks3) → Good W → RdS W (Co.d (Co.mk k3 v3 ds3 ks3)) [.int .i64 k3, .int .i64 v3, .slice ads3 ds3.length cds3, .slice aks3 ks3.length cks3] → Calls Try.prog F #[.agg #[.int .i64 k3, .int .i64 v3, .slice ads3 ds3.length cds3, .slice aks3 ks3.length cks3], q0, q1] W fun e w' => e = .returned (.bool (p (Co.mk k3 v3 ds3 ks3))) ∧ Below W.heap.size W w') :
    Calls Try.prog 70 #[.slice a ts.length c, .func (.func F) #[] #[q0, q1]] w fun e w' => e = .returned (.bool (ts.any p)) ∧ Below w.heap.size w w' := by
  have HC := hid (indexFunc_Co_2 F eF q0 q1 p Good hk ts a c w hg hr hc)
  have HR := hid (fstAt_any p ts)
  clear hr hc hk hg eF
  generalize fstAt p ts = r at HC HR
  generalize ts.any p = bb at HR ⊢
  go_enter Try.func70, Try.ntmps70
  go_wp2_with fail
  refine HC.out.mono ?_
  rintro e w1 ⟨rfl, hb⟩
  go_wp2_with fail
  go_ret
  exact ⟨ret_bool HR.out, hb⟩

end Go.Proofs.Ytejdbmeoaekhcaa
/- was: AnyCoN -/
namespace Go.Proofs.Ytejdbmeoaekhcaa
open Go.ChangeShapes Go.WideShapes Go.ChangeAt Go.RowKit
set_option linter.unusedVariables false

mutual
def Co.anyN (p : Co → Bool) : Co → Bool
  | .mk k v ds ks => p (.mk k v ds ks) || Co.anyNs p ks
def Co.anyNs (p : Co → Bool) : List Co → Bool
  | [] => false
  | t :: ts => Co.anyN p t || Co.anyNs p ts
end
theorem Co.anyNs_any (p : Co → Bool) : ∀ ts : List Co, ts.any (Co.anyN p) = Co.anyNs p ts
  | [] => rfl
  | t :: ts => by rw [List.any_cons, Co.anyNs_any p ts, Co.anyNs]
/-- The contract of a function value with one captured variable. -/
abbrev FnCo1 (F : FuncId) (q : Value) (p : Co → Bool) (Good : World → Prop) (N : Nat) : Prop :=
  ∀ (k1 : Int) (v1 : Int) (ds1 : List Int) (ks1 : List Co) (ads1 : Option Addr) (cds1 : Nat) (aks1 : Option Addr) (cks1 : Nat) (W : World), Co.bulk (Co.mk k1 v1 ds1 ks1) < N → Good W → RdS W (Co.d (Co.mk k1 v1 ds1 ks1)) [.int .i64 k1, .int .i64 v1, .slice ads1 ds1.length cds1, .slice aks1 ks1.length cks1] → Calls Try.prog F #[.agg #[.int .i64 k1, .int .i64 v1, .slice ads1 ds1.length cds1, .slice aks1 ks1.length cks1], q] W fun e w' => e = .returned (.bool (p (Co.mk k1 v1 ds1 ks1))) ∧ Below W.heap.size W w'
theorem any1_clo (F : FuncId) (q : Value) (p : Co → Bool) (Good : World → Prop) (hk : ∀ w w', Below w.heap.size w w' → Good w → Good w') (N : Nat)
    (ih : ∀ (k1 : Int) (v1 : Int) (ds1 : List Int) (ks1 : List Co) (ads1 : Option Addr) (cds1 : Nat) (aks1 : Option Addr) (cks1 : Nat) (W : World), Co.bulk (Co.mk k1 v1 ds1 ks1) < N → Good W → RdS W (Co.d (Co.mk k1 v1 ds1 ks1)) [.int .i64 k1, .int .i64 v1, .slice ads1 ds1.length cds1, .slice aks1 ks1.length cks1] → Calls Try.prog 51 #[.agg #[.int .i64 k1, .int .i64 v1, .slice ads1 ds1.length cds1, .slice aks1 ks1.length cks1], .func (.func F) #[] #[q]] W fun e w' => e = .returned (.bool (Co.anyN p (Co.mk k1 v1 ds1 ks1))) ∧ Below W.heap.size W w')
    (k1 : Int) (v1 : Int) (ds1 : List Int) (ks1 : List Co) (ads1 : Option Addr) (cds1 : Nat) (aks1 : Option Addr) (cks1 : Nat) (pp : Addr) (w : World) (hN : Co.bulk (Co.mk k1 v1 ds1 ks1) < N) (hg : Good w) (hp : w.cell? pp = some (.func (.func F) #[] #[q])) (hr : RdS w (Co.d (Co.mk k1 v1 ds1 ks1)) [.int .i64 k1, .int .i64 v1, .slice ads1 ds1.length cds1, .slice aks1 ks1.length cks1]) :
    Calls Try.prog 75 #[.agg #[.int .i64 k1, .int .i64 v1, .slice ads1 ds1.length cds1, .slice aks1 ks1.length cks1], .pointer (some pp)] w fun e w' => e = .returned (.bool (Co.anyN p (Co.mk k1 v1 ds1 ks1))) ∧ Below w.heap.size w w' := by
  have hB := (Below.refl w.heap.size w).alloc (Nat.le_refl _) (.cells #[.int .i64 k1, .int .i64 v1, .slice ads1 ds1.length cds1, .slice aks1 ks1.length cks1] 36)
  have HC := hid (ih k1 v1 ds1 ks1 ads1 cds1 aks1 cks1 _ hN (hk _ _ hB hg) (hr.below hB))
  have hp' := (hB.cell (p := pp) (World.block_lt_of_cell? _ _ hp)).trans hp
  have HB := hid hB
  clear hB hr ih hp hk hg
  go_enter Try.func75, Try.ntmps75
  go_wp2_with fail
  refine HC.out.mono ?_
  rintro e w1 ⟨rfl, hb⟩
  have HB1 := hid (HB.out.trans (hb.mono HB.out.size))
  clear hb
  go_wp2_with fail
  go_ret
  exact ⟨rfl, HB1.out⟩
set_option maxRecDepth 100000 in
theorem any1_step (F : FuncId) (eF : ∀ args (w : World), (callFunc F args).run Try.prog w = .ok (.enter F args) w) (q : Value) (p : Co → Bool) (Good : World → Prop) (hk : ∀ w w', Below w.heap.size w w' → Good w → Good w') (M : Nat) (hF : FnCo1 F q p Good M) (N : Nat) (hNM : N < M)
    (ih : ∀ (k1 : Int) (v1 : Int) (ds1 : List Int) (ks1 : List Co) (ads1 : Option Addr) (cds1 : Nat) (aks1 : Option Addr) (cks1 : Nat) (W : World), Co.bulk (Co.mk k1 v1 ds1 ks1) < N → Good W → RdS W (Co.d (Co.mk k1 v1 ds1 ks1)) [.int .i64 k1, .int .i64 v1, .slice ads1 ds1.length cds1, .slice aks1 ks1.length cks1] → Calls Try.prog 51 #[.agg #[.int .i64 k1, .int .i64 v1, .slice ads1 ds1.length cds1, .slice aks1 ks1.length cks1], .func (.func F) #[] #[q]] W fun e w' => e = .returned (.bool (Co.anyN p (Co.mk k1 v1 ds1 ks1))) ∧ Below W.heap.size W w') :
    ∀ (k1 : Int) (v1 : Int) (ds1 : List Int) (ks1 : List Co) (ads1 : Option Addr) (cds1 : Nat) (aks1 : Option Addr) (cks1 : Nat) (w : World), Co.bulk (Co.mk k1 v1 ds1 ks1) < N + 1 → Good w → RdS w (Co.d (Co.mk k1 v1 ds1 ks1)) [.int .i64 k1, .int .i64 v1, .slice ads1 ds1.length cds1, .slice aks1 ks1.length cks1] → Calls Try.prog 51 #[.agg #[.int .i64 k1, .int .i64 v1, .slice ads1 ds1.length cds1, .slice aks1 ks1.length cks1], .func (.func F) #[] #[q]] w fun e w' => e = .returned (.bool (Co.anyN p (Co.mk k1 v1 ds1 ks1))) ∧ Below w.heap.size w w' := by
  intro k1 v1 ds1 ks1 ads1 cds1 aks1 cks1 w hN hg hr
  have hbk : Co.bulk (Co.mk k1 v1 ds1 ks1) = In.bulks ds1 + Co.bulks ks1 := rfl
  have HE := hid (show Co.anyN p (Co.mk k1 v1 ds1 ks1) = (p (Co.mk k1 v1 ds1 ks1) || Co.anyNs p ks1) from by rw [Co.anyN])
  have HX0 := hid (((Boxes.nil w).alloc #[.int .i64 k1, .int .i64 v1, .slice ads1 ds1.length cds1, .slice aks1 ks1.length cks1] 36 (0, 0)).alloc #[.func (.func F) #[] #[q]] 62 (0, 0))
  have hB : Below w.heap.size w ((w.alloc (.cells #[.int .i64 k1, .int .i64 v1, .slice ads1 ds1.length cds1, .slice aks1 ks1.length cks1] 36)).alloc (.cells #[.func (.func F) #[] #[q]] 62)) := ((Below.refl _ _).alloc (Nat.le_refl _) _).alloc (by simp) _
  have hc := fun W (hW : Below w.heap.size w W) (hp : W.cell? ⟨w.heap.size + 1, 0, none⟩ = some (.func (.func F) #[] #[q])) =>
    contains_Co_1 75 Try.call75 (.pointer (some ⟨w.heap.size + 1, 0, none⟩)) (Co.anyN p) (fun V => Good V ∧ V.cell? ⟨w.heap.size + 1, 0, none⟩ = some (.func (.func F) #[] #[q]))
      (fun a b hab ⟨h1, h2⟩ => ⟨hk a b hab h1, (hab.cell (p := ⟨w.heap.size + 1, 0, none⟩) (World.block_lt_of_cell? _ _ h2)).trans h2⟩) ks1 aks1 cks1 W ⟨hk _ _ hW hg, hp⟩ (hr.fCo.2.2.2.below hW)
      (fun k3 v3 ds3 ks3 ads3 cds3 aks3 cks3 j V hj hV hrv => any1_clo F q p Good hk N ih k3 v3 ds3 ks3 ads3 cds3 aks3 cks3 _ V (by have := Co.bulk_get ks1 j _ hj; omega) hV.1 hV.2 hrv)
  have hv := hF k1 v1 ds1 ks1 ads1 cds1 aks1 cks1 ((w.alloc (.cells #[.int .i64 k1, .int .i64 v1, .slice ads1 ds1.length cds1, .slice aks1 ks1.length cks1] 36)).alloc (.cells #[.func (.func F) #[] #[q]] 62)) (by omega) (hk _ _ hB hg) (hr.below hB)
  have HB := hid hB
  rw [Co.anyNs_any] at hc
  have HC := hid hc
  clear hc hr hB ih hbk hN hF hk hg hNM
  by_cases hq : p (Co.mk k1 v1 ds1 ks1) = true
  case pos =>
    rw [hq] at hv
    have HV := hid hv
    have HQ := hid hq
    clear hv hq HC
    go_enter Try.func51, Try.ntmps51
    go_wp2_with fail
    refine HV.out.mono ?_
    rintro e w1 ⟨rfl, hb⟩
    have HB1 := hid (HB.out.trans (hb.mono HB.out.size))
    clear hb
    go_wp2_with fail
    go_ret
    exact ⟨ret_bool (by rw [HE.out, HQ.out]; rfl), HB1.out⟩
  case neg =>
    replace hq := (Bool.not_eq_true _).mp hq
    rw [hq] at hv
    have HV := hid hv
    have HQ := hid hq
    clear hv hq
    go_enter Try.func51, Try.ntmps51
    go_wp2_with fail
    refine HV.out.mono ?_
    rintro e w1 ⟨rfl, hb⟩
    have HB1 := hid (HB.out.trans (hb.mono HB.out.size))
    have HX1 := hid (HX0.out.below hb)
    have g3 := HX1.out.at 1 3 rfl rfl
    have gf := HX1.out.at 0 0 rfl rfl
    simp only [World.size_alloc] at gf
    have GF := hid gf
    clear hb gf
    go_wp2_with fail
    refine (HC.out _ HB1.out GF.out).mono ?_
    rintro e w2 ⟨rfl, hb⟩
    have HB2 := hid (HB1.out.trans (hb.mono HB1.out.size))
    clear hb
    go_wp2_with fail
    go_ret
    exact ⟨ret_bool (by rw [HE.out, HQ.out]; rfl), HB2.out⟩
theorem any1_all (F : FuncId) (eF : ∀ args (w : World), (callFunc F args).run Try.prog w = .ok (.enter F args) w) (q : Value) (p : Co → Bool) (Good : World → Prop) (hk : ∀ w w', Below w.heap.size w w' → Good w → Good w') (M : Nat) (hF : FnCo1 F q p Good M) : ∀ N, N ≤ M →
    ∀ (k1 : Int) (v1 : Int) (ds1 : List Int) (ks1 : List Co) (ads1 : Option Addr) (cds1 : Nat) (aks1 : Option Addr) (cks1 : Nat) (W : World), Co.bulk (Co.mk k1 v1 ds1 ks1) < N → Good W → RdS W (Co.d (Co.mk k1 v1 ds1 ks1)) [.int .i64 k1, .int .i64 v1, .slice ads1 ds1.length cds1, .slice aks1 ks1.length cks1] → Calls Try.prog 51 #[.agg #[.int .i64 k1, .int .i64 v1, .slice ads1 ds1.length cds1, .slice aks1 ks1.length cks1], .func (.func F) #[] #[q]] W fun e w' => e = .returned (.bool (Co.anyN p (Co.mk k1 v1 ds1 ks1))) ∧ Below W.heap.size W w'
  | 0, _ => fun _ _ _ _ _ _ _ _ _  h => absurd h (by omega)
  | N + 1, h => any1_step F eF q p Good hk M hF N (by omega) (any1_all F eF q p Good hk M hF N (by omega))
end Go.Proofs.Ytejdbmeoaekhcaa
/- was: NorI -/
namespace Go.Proofs.Ytejdbmeoaekhcaa
open Go.ChangeShapes Go.WideShapes Go.ChangeAt Go.RowKit Go.BigFrame
open Go.Sort (grow)
set_option linter.unusedVariables false

set_option maxRecDepth 100000 in
set_option maxHeartbeats 4000000 in
theorem impl_kind (k1 v1 : Int) (ds1 : List Int) (ks1 : List Co) (ads1 : Option Addr) (cds1 : Nat) (aks1 : Option Addr) (cks1 : Nat) (w : World) (hg : Co.good (Co.mk k1 v1 ds1 ks1) = true) (hr : RdS w (Co.d (Co.mk k1 v1 ds1 ks1)) [.int .i64 k1, .int .i64 v1, .slice ads1 ds1.length cds1, .slice aks1 ks1.length cks1]) :
    Calls Try.prog 53 #[.agg #[.int .i64 k1, .int .i64 v1, .slice ads1 ds1.length cds1, .slice aks1 ks1.length cks1]] w fun e w' => e = .returned (.int .i64 (redx k1 ds1.length ks1)) ∧ Below w.heap.size w w' := by
  by_cases hk15 : k1 = 5
  case pos =>
    subst hk15
    obtain ⟨⟨k3, v3, ds3, ks3⟩, ⟨k4, v4, ds4, ks4⟩, hks, hg3, hg4⟩ := good_two hg (by omega)
    subst hks
    obtain ⟨aq, cq, e, _, _, hall⟩ := kids_at hr.fCo.2.2.2
    simp only [Value.slice.injEq, true_and] at e
    obtain ⟨rfl, rfl⟩ := e
    obtain ⟨bq, oq, rfl, hlq, hall⟩ := hall (by simp)
    obtain ⟨ad3, cd3, ak3, ck3, q0, q1, q2, q3, _⟩ := hall 0 _ rfl
    obtain ⟨ad4, cd4, ak4, ck4, u0, u1, u2, u3, _⟩ := hall 1 _ rfl
    simp only [Nat.zero_mul, Nat.add_zero, Nat.one_mul] at q0 q1 q2 q3 u0 u1 u2 u3
    have HBX : Below w.heap.size w (w.alloc (.cells #[.int .i64 5, .int .i64 v1, .slice ads1 ds1.length cds1, .slice (some ⟨bq, oq, none⟩) 2 cks1] 36)) := (Below.refl _ _).alloc (Nat.le_refl _) _
    have HBY : Below w.heap.size w ((w.alloc (.cells #[.int .i64 5, .int .i64 v1, .slice ads1 ds1.length cds1, .slice (some ⟨bq, oq, none⟩) 2 cks1] 36)).alloc (.cells #[.int .i64 k3, .int .i64 v3, .slice ad3 ds3.length cd3, .slice ak3 ks3.length ck3] 36)) := HBX.alloc (by simp) _
    have p0 := (HBX.cell (p := ⟨bq, oq, none⟩) hlq).trans q0
    have p1 := (HBX.cell (p := ⟨bq, oq + 1, none⟩) hlq).trans q1
    have p2 := (HBX.cell (p := ⟨bq, oq + 2, none⟩) hlq).trans q2
    have p3 := (HBX.cell (p := ⟨bq, oq + 3, none⟩) hlq).trans q3
    clear hall hr hg hg3 hg4 HBX HBY q0 q1 q2 q3 u0 u1 u2 u3
    by_cases hk34 : k3 = 4
    case pos =>
      subst hk34
      go_enter Try.func53, Try.ntmps53
      go_wp2_with fail
      go_ret
      exact ⟨by simp [redx, *], by repeat (first | exact Below.refl _ _ | (refine Below.setCell ?_ (by simp; try omega) _) | (refine Below.alloc ?_ (by simp; try omega) _))⟩
    case neg =>
      have gk34 : (k3 == 4) = false := by simp [hk34]
      by_cases hk311 : k3 = 11
      case pos =>
        subst hk311
        go_enter Try.func53, Try.ntmps53
        go_wp2_with fail
        go_ret
        exact ⟨by simp [redx, *], by repeat (first | exact Below.refl _ _ | (refine Below.setCell ?_ (by simp; try omega) _) | (refine Below.alloc ?_ (by simp; try omega) _))⟩
      case neg =>
        have gk311 : (k3 == 11) = false := by simp [hk311]
        go_enter Try.func53, Try.ntmps53
        go_wp2_with fail
        go_ret
        exact ⟨by simp [redx, *], by repeat (first | exact Below.refl _ _ | (refine Below.setCell ?_ (by simp; try omega) _) | (refine Below.alloc ?_ (by simp; try omega) _))⟩
  case neg =>
    have gk15 : (k1 == 5) = false := by simp [hk15]
    by_cases hk13 : k1 = 3
    case pos =>
      subst hk13
      obtain ⟨⟨k3, v3, ds3, ks3⟩, ⟨k4, v4, ds4, ks4⟩, hks, hg3, hg4⟩ := good_two hg (by omega)
      subst hks
      obtain ⟨aq, cq, e, _, _, hall⟩ := kids_at hr.fCo.2.2.2
      simp only [Value.slice.injEq, true_and] at e
      obtain ⟨rfl, rfl⟩ := e
      obtain ⟨bq, oq, rfl, hlq, hall⟩ := hall (by simp)
      obtain ⟨ad3, cd3, ak3, ck3, q0, q1, q2, q3, _⟩ := hall 0 _ rfl
      obtain ⟨ad4, cd4, ak4, ck4, u0, u1, u2, u3, _⟩ := hall 1 _ rfl
      simp only [Nat.zero_mul, Nat.add_zero, Nat.one_mul] at q0 q1 q2 q3 u0 u1 u2 u3
      have HBX : Below w.heap.size w (w.alloc (.cells #[.int .i64 3, .int .i64 v1, .slice ads1 ds1.length cds1, .slice (some ⟨bq, oq, none⟩) 2 cks1] 36)) := (Below.refl _ _).alloc (Nat.le_refl _) _
      have HBY : Below w.heap.size w ((w.alloc (.cells #[.int .i64 3, .int .i64 v1, .slice ads1 ds1.length cds1, .slice (some ⟨bq, oq, none⟩) 2 cks1] 36)).alloc (.cells #[.int .i64 k3, .int .i64 v3, .slice ad3 ds3.length cd3, .slice ak3 ks3.length ck3] 36)) := HBX.alloc (by simp) _
      have p0 := (HBX.cell (p := ⟨bq, oq, none⟩) hlq).trans q0
      have p1 := (HBX.cell (p := ⟨bq, oq + 1, none⟩) hlq).trans q1
      have p2 := (HBX.cell (p := ⟨bq, oq + 2, none⟩) hlq).trans q2
      have p3 := (HBX.cell (p := ⟨bq, oq + 3, none⟩) hlq).trans q3
      have w0 := (HBY.cell (p := ⟨bq, oq + 4, none⟩) hlq).trans u0
      have w1 := (HBY.cell (p := ⟨bq, oq + 4 + 1, none⟩) hlq).trans u1
      have w2 := (HBY.cell (p := ⟨bq, oq + 4 + 2, none⟩) hlq).trans u2
      have w3 := (HBY.cell (p := ⟨bq, oq + 4 + 3, none⟩) hlq).trans u3
      clear hall hr hg hg3 hg4 HBX HBY q0 q1 q2 q3 u0 u1 u2 u3
      by_cases hk311 : k3 = 11
      case pos =>
        subst hk311
        by_cases hk42 : k4 = 2
        case pos =>
          subst hk42
          go_enter Try.func53, Try.ntmps53
          go_wp2_with fail
          go_ret
          exact ⟨by simp [redx, *], by repeat (first | exact Below.refl _ _ | (refine Below.setCell ?_ (by simp; try omega) _) | (refine Below.alloc ?_ (by simp; try omega) _))⟩
        case neg =>
          have gk42 : (k4 == 2) = false := by simp [hk42]
          go_enter Try.func53, Try.ntmps53
          go_wp2_with fail
          go_ret
          exact ⟨by simp [redx, *], by repeat (first | exact Below.refl _ _ | (refine Below.setCell ?_ (by simp; try omega) _) | (refine Below.alloc ?_ (by simp; try omega) _))⟩
      case neg =>
        have gk311 : (k3 == 11) = false := by simp [hk311]
        by_cases hk32 : k3 = 2
        case pos =>
          subst hk32
          by_cases hk42 : k4 = 2
          case pos =>
            subst hk42
            go_enter Try.func53, Try.ntmps53
            go_wp2_with fail
            go_ret
            exact ⟨by simp [redx, *], by repeat (first | exact Below.refl _ _ | (refine Below.setCell ?_ (by simp; try omega) _) | (refine Below.alloc ?_ (by simp; try omega) _))⟩
          case neg =>
            have gk42 : (k4 == 2) = false := by simp [hk42]
            by_cases hk411 : k4 = 11
            case pos =>
              subst hk411
              go_enter Try.func53, Try.ntmps53
              go_wp2_with fail
              go_ret
              exact ⟨by simp [redx, *], by repeat (first | exact Below.refl _ _ | (refine Below.setCell ?_ (by simp; try omega) _) | (refine Below.alloc ?_ (by simp; try omega) _))⟩
            case neg =>
              have gk411 : (k4 == 11) = false := by simp [hk411]
              go_enter Try.func53, Try.ntmps53
              go_wp2_with fail
              go_ret
              exact ⟨by simp [redx, *], by repeat (first | exact Below.refl _ _ | (refine Below.setCell ?_ (by simp; try omega) _) | (refine Below.alloc ?_ (by simp; try omega) _))⟩
        case neg =>
          have gk32 : (k3 == 2) = false := by simp [hk32]
          go_enter Try.func53, Try.ntmps53
          go_wp2_with fail
          go_ret
          exact ⟨by simp [redx, *], by repeat (first | exact Below.refl _ _ | (refine Below.setCell ?_ (by simp; try omega) _) | (refine Below.alloc ?_ (by simp; try omega) _))⟩
    case neg =>
      have gk13 : (k1 == 3) = false := by simp [hk13]
      by_cases hk19 : k1 = 9
      case pos =>
        subst hk19
        obtain ⟨⟨k3, v3, ds3, ks3⟩, hks, hg3⟩ := good_one hg (by omega)
        subst hks
        obtain ⟨aq, cq, e, _, _, hall⟩ := kids_at hr.fCo.2.2.2
        simp only [Value.slice.injEq, true_and] at e
        obtain ⟨rfl, rfl⟩ := e
        obtain ⟨bq, oq, rfl, hlq, hall⟩ := hall (by simp)
        obtain ⟨ad3, cd3, ak3, ck3, q0, q1, q2, q3, _⟩ := hall 0 _ rfl
        simp only [Nat.zero_mul, Nat.add_zero] at q0 q1 q2 q3
        have HBX : Below w.heap.size w (w.alloc (.cells #[.int .i64 9, .int .i64 v1, .slice ads1 ds1.length cds1, .slice (some ⟨bq, oq, none⟩) 1 cks1] 36)) := (Below.refl _ _).alloc (Nat.le_refl _) _
        have HBY : Below w.heap.size w ((w.alloc (.cells #[.int .i64 9, .int .i64 v1, .slice ads1 ds1.length cds1, .slice (some ⟨bq, oq, none⟩) 1 cks1] 36)).alloc (.cells #[.int .i64 k3, .int .i64 v3, .slice ad3 ds3.length cd3, .slice ak3 ks3.length ck3] 36)) := HBX.alloc (by simp) _
        have p0 := (HBX.cell (p := ⟨bq, oq, none⟩) hlq).trans q0
        have p1 := (HBX.cell (p := ⟨bq, oq + 1, none⟩) hlq).trans q1
        have p2 := (HBX.cell (p := ⟨bq, oq + 2, none⟩) hlq).trans q2
        have p3 := (HBX.cell (p := ⟨bq, oq + 3, none⟩) hlq).trans q3
        clear hall hr hg hg3 HBX HBY q0 q1 q2 q3
        by_cases hk311 : k3 = 11
        case pos =>
          subst hk311
          go_enter Try.func53, Try.ntmps53
          go_wp2_with fail
          go_ret
          exact ⟨by simp [redx, *], by repeat (first | exact Below.refl _ _ | (refine Below.setCell ?_ (by simp; try omega) _) | (refine Below.alloc ?_ (by simp; try omega) _))⟩
        case neg =>
          have gk311 : (k3 == 11) = false := by simp [hk311]
          by_cases hk38 : k3 = 8
          case pos =>
            subst hk38
            by_cases hvn : v3 < (ds1.length : Int)
            case pos =>
              have hvd : decide (v3 < (ds1.length : Int)) = true := decide_eq_true hvn
              go_enter Try.func53, Try.ntmps53
              go_wp2_with fail
              go_ret
              exact ⟨by simp [redx, *], by repeat (first | exact Below.refl _ _ | (refine Below.setCell ?_ (by simp; try omega) _) | (refine Below.alloc ?_ (by simp; try omega) _))⟩
            case neg =>
              have hvd : decide (v3 < (ds1.length : Int)) = false := decide_eq_false hvn
              go_enter Try.func53, Try.ntmps53
              go_wp2_with fail
              go_ret
              exact ⟨by simp [redx, *], by repeat (first | exact Below.refl _ _ | (refine Below.setCell ?_ (by simp; try omega) _) | (refine Below.alloc ?_ (by simp; try omega) _))⟩
          case neg =>
            have gk38 : (k3 == 8) = false := by simp [hk38]
            go_enter Try.func53, Try.ntmps53
            go_wp2_with fail
            go_ret
            exact ⟨by simp [redx, *], by repeat (first | exact Below.refl _ _ | (refine Below.setCell ?_ (by simp; try omega) _) | (refine Below.alloc ?_ (by simp; try omega) _))⟩
      case neg =>
        have gk19 : (k1 == 9) = false := by simp [hk19]
        by_cases hk110 : k1 = 10
        case pos =>
          subst hk110
          obtain ⟨⟨k3, v3, ds3, ks3⟩, hks, hg3⟩ := good_one hg (by omega)
          subst hks
          obtain ⟨aq, cq, e, _, _, hall⟩ := kids_at hr.fCo.2.2.2
          simp only [Value.slice.injEq, true_and] at e
          obtain ⟨rfl, rfl⟩ := e
          obtain ⟨bq, oq, rfl, hlq, hall⟩ := hall (by simp)
          obtain ⟨ad3, cd3, ak3, ck3, q0, q1, q2, q3, _⟩ := hall 0 _ rfl
          simp only [Nat.zero_mul, Nat.add_zero] at q0 q1 q2 q3
          have HBX : Below w.heap.size w (w.alloc (.cells #[.int .i64 10, .int .i64 v1, .slice ads1 ds1.length cds1, .slice (some ⟨bq, oq, none⟩) 1 cks1] 36)) := (Below.refl _ _).alloc (Nat.le_refl _) _
          have HBY : Below w.heap.size w ((w.alloc (.cells #[.int .i64 10, .int .i64 v1, .slice ads1 ds1.length cds1, .slice (some ⟨bq, oq, none⟩) 1 cks1] 36)).alloc (.cells #[.int .i64 k3, .int .i64 v3, .slice ad3 ds3.length cd3, .slice ak3 ks3.length ck3] 36)) := HBX.alloc (by simp) _
          have p0 := (HBX.cell (p := ⟨bq, oq, none⟩) hlq).trans q0
          have p1 := (HBX.cell (p := ⟨bq, oq + 1, none⟩) hlq).trans q1
          have p2 := (HBX.cell (p := ⟨bq, oq + 2, none⟩) hlq).trans q2
          have p3 := (HBX.cell (p := ⟨bq, oq + 3, none⟩) hlq).trans q3
          clear hall hr hg hg3 HBX HBY q0 q1 q2 q3
          by_cases hk311 : k3 = 11
          case pos =>
            subst hk311
            go_enter Try.func53, Try.ntmps53
            go_wp2_with fail
            go_ret
            exact ⟨by simp [redx, *], by repeat (first | exact Below.refl _ _ | (refine Below.setCell ?_ (by simp; try omega) _) | (refine Below.alloc ?_ (by simp; try omega) _))⟩
          case neg =>
            have gk311 : (k3 == 11) = false := by simp [hk311]
            by_cases hk32 : k3 = 2
            case pos =>
              subst hk32
              go_enter Try.func53, Try.ntmps53
              go_wp2_with fail
              go_ret
              exact ⟨by simp [redx, *], by repeat (first | exact Below.refl _ _ | (refine Below.setCell ?_ (by simp; try omega) _) | (refine Below.alloc ?_ (by simp; try omega) _))⟩
            case neg =>
              have gk32 : (k3 == 2) = false := by simp [hk32]
              go_enter Try.func53, Try.ntmps53
              go_wp2_with fail
              go_ret
              exact ⟨by simp [redx, *], by repeat (first | exact Below.refl _ _ | (refine Below.setCell ?_ (by simp; try omega) _) | (refine Below.alloc ?_ (by simp; try omega) _))⟩
        case neg =>
          have gk110 : (k1 == 10) = false := by simp [hk110]
          cases ks1 with
          | nil =>
            clear hr hg
            go_enter Try.func53, Try.ntmps53
            go_wp2_with fail
            go_ret
            exact ⟨by simp [redx], by repeat (first | exact Below.refl _ _ | (refine Below.setCell ?_ (by simp; try omega) _) | (refine Below.alloc ?_ (by simp; try omega) _))⟩
          | cons x r =>
            obtain ⟨aq, cq, e, _, _, hall⟩ := kids_at hr.fCo.2.2.2
            simp only [Value.slice.injEq, true_and] at e
            obtain ⟨rfl, rfl⟩ := e
            obtain ⟨bq, oq, rfl, hlq, hall⟩ := hall (by simp)
            obtain ⟨k3, v3, ds3, ks3⟩ := x
            obtain ⟨ad3, cd3, ak3, ck3, q0, q1, q2, q3, _⟩ := hall 0 _ rfl
            simp only [Nat.zero_mul, Nat.add_zero] at q0 q1 q2 q3
            have HBX : Below w.heap.size w (w.alloc (.cells #[.int .i64 k1, .int .i64 v1, .slice ads1 ds1.length cds1, .slice (some ⟨bq, oq, none⟩) (Co.mk k3 v3 ds3 ks3 :: r).length cks1] 36)) := (Below.refl _ _).alloc (Nat.le_refl _) _
            have p0 := (HBX.cell (p := ⟨bq, oq, none⟩) hlq).trans q0
            have p1 := (HBX.cell (p := ⟨bq, oq + 1, none⟩) hlq).trans q1
            have p2 := (HBX.cell (p := ⟨bq, oq + 2, none⟩) hlq).trans q2
            have p3 := (HBX.cell (p := ⟨bq, oq + 3, none⟩) hlq).trans q3
            have hres : redx k1 ds1.length (Co.mk k3 v3 ds3 ks3 :: r) = 0 := by simp [redx, *]
            rw [hres]
            have hnz : (Co.mk k3 v3 ds3 ks3 :: r).length = r.length + 1 := rfl
            rw [hnz] at p0 p1 p2 p3 ⊢
            have hnb : ((r.length : Int) + 1 == 0) = false := by simp; omega
            have hi0 : (0 : Int) < (r.length : Int) + 1 := by omega
            have hi1 : 0 < r.length + 1 := by omega
            clear hall hr hg HBX q0 q1 q2 q3 hres hnz
            go_enter Try.func53, Try.ntmps53
            go_wp2_with fail
            go_ret
            exact ⟨rfl, by repeat (first | exact Below.refl _ _ | (refine Below.setCell ?_ (by simp; try omega) _) | (refine Below.alloc ?_ (by simp; try omega) _))⟩
end Go.Proofs.Ytejdbmeoaekhcaa
/- was: CoErase -/
namespace Go.Proofs.Ytejdbmeoaekhcaa
open Go.ChangeShapes Go.WideShapes Go.ChangeAt Go.RowKit
set_option linter.unusedVariables false

mutual
def Co.era : Co → Bool
  | .mk k _ _ ks => !(decide (k = 6) || decide (k = 7)) && Co.eras ks
def Co.eras : List Co → Bool
  | [] => true
  | t :: ts => Co.era t && Co.eras ts
end
theorem Co.eras_no : ∀ (ts : List Co) (j : Nat) (t : Co), ts[j]? = some t → Co.era t = false → Co.eras ts = false
  | [], j, t, h, _ => by simp at h
  | u :: ts, 0, t, h, e => by simp at h; subst h; simp [Co.eras, e]
  | u :: ts, j + 1, t, h, e => by rw [Co.eras, Co.eras_no ts j t (by simpa using h) e]; simp
theorem Co.eras_yes : ∀ (ts : List Co), (∀ (j : Nat) t, ts[j]? = some t → Co.era t = true) → Co.eras ts = true
  | [], _ => rfl
  | t :: ts, h => by rw [Co.eras, h 0 t rfl, Co.eras_yes ts fun j u hj => h (j + 1) u (by simpa using hj)]; rfl

def SpEraW (N : Nat) : Prop := ∀ (k1 : Int) (v1 : Int) (ds1 : List Int) (ks1 : List Co) (ads1 : Option Addr) (cds1 : Nat) (aks1 : Option Addr) (cks1 : Nat) (b1 o1 : Nat) (w : World), Co.bulk (Co.mk k1 v1 ds1 ks1) < N → w.cell? ⟨b1, o1, none⟩ = some (.int .i64 k1) → w.cell? ⟨b1, o1 + 1, none⟩ = some (.int .i64 v1) → w.cell? ⟨b1, o1 + 2, none⟩ = some (.slice ads1 ds1.length cds1) → w.cell? ⟨b1, o1 + 3, none⟩ = some (.slice aks1 ks1.length cks1) → RdS w (Co.d (Co.mk k1 v1 ds1 ks1)) [.int .i64 k1, .int .i64 v1, .slice ads1 ds1.length cds1, .slice aks1 ks1.length cks1] →
  Calls Try.prog 45 #[.pointer (some ⟨b1, o1, none⟩)] w fun e w' => e = .returned (.bool (Co.era (Co.mk k1 v1 ds1 ks1))) ∧ Below w.heap.size w w'
set_option maxHeartbeats 1000000 in
theorem spec_era_step (N : Nat) (ih : SpEraW N) : SpEraW (N + 1) := by
  intro k1 v1 ds1 ks1 ads1 cds1 aks1 cks1 b1 o1 w hN x0 x1 x2 x3 hr
  have hbk : Co.bulk (Co.mk k1 v1 ds1 ks1) = In.bulks ds1 + Co.bulks ks1 := rfl
  have hed : Co.era (Co.mk k1 v1 ds1 ks1) = (!(decide (k1 = 6) || decide (k1 = 7)) && Co.eras ks1) := rfl
  obtain ⟨_, _, e, h2, h3, h4⟩ := hr.fCo.2.2.2.eCo
  simp only [Value.slice.injEq, true_and] at e
  obtain ⟨rfl, rfl⟩ := e
  have IH := hid ih
  have H4 := hid h4
  have HK := hid hbk
  have HN := hid hN
  have HE := hid hed
  have X3 := hid x3
  have XL := hid (World.block_lt_of_cell? _ _ x3)
  clear ih hr h4 hbk hN hed x1 x2
  by_cases h6 : k1 = 6
  case pos =>
    subst h6
    have HF := hid (show Co.era (Co.mk 6 v1 ds1 ks1) = false by rw [HE.out]; simp)
    go_enter Try.func45, Try.ntmps45
    go_wp2_with fail
    go_ret
    exact ⟨ret_bool HF.out.symm, Below.refl _ _⟩
  case neg =>
  by_cases h7 : k1 = 7
  case pos =>
    subst h7
    have HF := hid (show Co.era (Co.mk 7 v1 ds1 ks1) = false by rw [HE.out]; simp)
    clear h6
    go_enter Try.func45, Try.ntmps45
    go_wp2_with fail
    go_ret
    exact ⟨ret_bool HF.out.symm, Below.refl _ _⟩
  case neg =>
    have g6 : (k1 == 6) = false := by simp [h6]
    have g7 : (k1 == 7) = false := by simp [h7]
    have HF := hid (show Co.era (Co.mk k1 v1 ds1 ks1) = Co.eras ks1 by rw [HE.out]; simp [h6, h7])
    clear h6 h7
    go_enter Try.func45, Try.ntmps45
    go_wp2_with fail
    go_loopw [3] (fun i wr => ∃ (j : Nat), j ≤ ks1.length ∧ i = .int .i64 j ∧ Hid (∀ (i : Nat) t, i < j → ks1[i]? = some t → Co.era t = true) ∧ Below w.heap.size w wr) (fun i _ => ks1.length - (intOf i).toNat)
    case atStart => exact ⟨0, by omega, rfl, fun i t hi => absurd hi (by omega), Below.refl _ _⟩
    case round =>
      obtain ⟨j, hj, rfl, HJ, hb⟩ := hrel
      have z3 := (hb.cell (p := ⟨b1, o1 + 3, none⟩) XL.out).trans X3.out
      by_cases hlt : j < ks1.length
      case pos =>
        obtain ⟨b, o, rfl, hbl, hall⟩ := H4.out (by omega)
        obtain ⟨t, ht⟩ : ∃ t, ks1[j]? = some t := ⟨_, List.getElem?_eq_getElem hlt⟩
        obtain ⟨k3, v3, ds3, ks3⟩ := t
        obtain ⟨ads3, cds3, aks3, cks3, q0, q1, q2, q3, hrk⟩ := hall j k3 v3 ds3 ks3 ht
        clear hall H4
        have hbg := Co.bulk_get ks1 j _ ht
        have hc := IH.out k3 v3 ds3 ks3 ads3 cds3 aks3 cks3 b (o + j * 4) wr (by have := HK.out; have := HN.out; omega)
          ((hb.cell (p := ⟨b, o + j * 4, none⟩) hbl).trans q0) ((hb.cell (p := ⟨b, o + j * 4 + 1, none⟩) hbl).trans q1) ((hb.cell (p := ⟨b, o + j * 4 + 2, none⟩) hbl).trans q2) ((hb.cell (p := ⟨b, o + j * 4 + 3, none⟩) hbl).trans q3) (hrk.below hb)
        have HT := hid ht
        by_cases hg : Co.era (.mk k3 v3 ds3 ks3) = true
        case neg =>
          replace hg := (Bool.not_eq_true _).mp hg
          rw [hg] at hc
          have HC := hid hc
          have HG := hid hg
          clear ht hrk q0 q1 q2 q3 hc hg
          go_wp2_with fail
          refine HC.out.mono ?_
          clear HC
          rintro e w1 ⟨rfl, hb1⟩
          have hbw := hb.trans (hb1.mono hb.size)
          clear hb1 z3
          go_wp2_with fail
          go_ret
          exact ⟨ret_bool (by rw [HF.out, Co.eras_no ks1 j _ HT.out HG.out]), hbw⟩
        case pos =>
          rw [hg] at hc
          have HC := hid hc
          have HG := hid hg
          clear ht hrk q0 q1 q2 q3 hc hg
          go_wp2_with fail
          refine HC.out.mono ?_
          clear HC
          rintro e w1 ⟨rfl, hb1⟩
          have hbw := hb.trans (hb1.mono hb.size)
          clear hb1 z3
          go_wp2_with fail
          go_roundw
          case rel => exact ⟨j + 1, by omega, by go_num, fun i t hi hti => (Nat.lt_succ_iff_lt_or_eq.1 hi).elim (fun hi => HJ.out i t hi hti) (fun he => by subst he; obtain rfl := Option.some.inj (hti.symm.trans HT.out); exact HG.out), hbw⟩
          case measure => simp [intOf]; omega
      case neg =>
        go_wp2_with fail
        go_ret
        exact ⟨ret_bool (by rw [HF.out, Co.eras_yes ks1 fun i t hti => HJ.out i t (by have := (List.getElem?_eq_some_iff.1 hti).1; omega) hti]), hb⟩
theorem spec_era_all : ∀ N, SpEraW N
  | 0 => fun _ _ _ _ _ _ _ _ _ _ _  h => absurd h (by omega)
  | N + 1 => spec_era_step N (spec_era_all N)

end Go.Proofs.Ytejdbmeoaekhcaa
/- was: NorJ -/
namespace Go.Proofs.Ytejdbmeoaekhcaa
open Go.ChangeShapes Go.WideShapes Go.ChangeAt Go.RowKit
set_option linter.unusedVariables false

theorem impl_isRedex (k1 v1 : Int) (ds1 : List Int) (ks1 : List Co) (ads1 : Option Addr) (cds1 : Nat) (aks1 : Option Addr) (cks1 : Nat) (w : World) (hg : Co.good (Co.mk k1 v1 ds1 ks1) = true) (hr : RdS w (Co.d (Co.mk k1 v1 ds1 ks1)) [.int .i64 k1, .int .i64 v1, .slice ads1 ds1.length cds1, .slice aks1 ks1.length cks1]) : Calls Try.prog 52 #[.agg #[.int .i64 k1, .int .i64 v1, .slice ads1 ds1.length cds1, .slice aks1 ks1.length cks1]] w fun e w' => e = .returned (.bool (redx k1 ds1.length ks1 != 0)) ∧ Below w.heap.size w w' := by
  have hB := (Below.refl w.heap.size w).alloc (Nat.le_refl _) (.cells #[.int .i64 k1, .int .i64 v1, .slice ads1 ds1.length cds1, .slice aks1 ks1.length cks1] 36)
  have hc := impl_kind k1 v1 ds1 ks1 ads1 cds1 aks1 cks1 _ hg (hr.below hB)
  have HB := hid hB
  obtain ⟨z, hz⟩ : ∃ z, z = redx k1 ds1.length ks1 := ⟨_, rfl⟩
  rw [← hz] at hc ⊢
  have HC := hid hc
  clear hc hr hg hB hz
  by_cases h0 : z = 0
  case pos =>
    subst h0
    go_enter Try.func52, Try.ntmps52
    go_wp2_with fail
    refine HC.out.mono ?_
    rintro e w1 ⟨rfl, hb⟩
    have HB1 := hid (HB.out.trans (hb.mono HB.out.size))
    clear hb
    go_wp2_with fail
    go_ret
    exact ⟨rfl, HB1.out⟩
  case neg =>
    have g0 : (z == 0) = false := by simp [h0]
    have g1 : (z != 0) = true := by simp [h0]
    rw [g1]
    clear h0
    go_enter Try.func52, Try.ntmps52
    go_wp2_with fail
    refine HC.out.mono ?_
    rintro e w1 ⟨rfl, hb⟩
    have HB1 := hid (HB.out.trans (hb.mono HB.out.size))
    clear hb
    go_wp2_with fail
    go_ret
    exact ⟨rfl, HB1.out⟩

def AnyRW (N : Nat) : Prop := ∀ (k1 : Int) (v1 : Int) (ds1 : List Int) (ks1 : List Co) (ads1 : Option Addr) (cds1 : Nat) (aks1 : Option Addr) (cks1 : Nat) (w : World), Co.bulk (Co.mk k1 v1 ds1 ks1) < N → Co.good (Co.mk k1 v1 ds1 ks1) = true → RdS w (Co.d (Co.mk k1 v1 ds1 ks1)) [.int .i64 k1, .int .i64 v1, .slice ads1 ds1.length cds1, .slice aks1 ks1.length cks1] →
  Calls Try.prog 51 #[.agg #[.int .i64 k1, .int .i64 v1, .slice ads1 ds1.length cds1, .slice aks1 ks1.length cks1], .func (.func 52) #[] #[]] w fun e w' => e = .returned (.bool (!Co.nor (Co.mk k1 v1 ds1 ks1))) ∧ Below w.heap.size w w'
theorem nor_any1 (N : Nat) (ih : AnyRW N) (k1 : Int) (v1 : Int) (ds1 : List Int) (ks1 : List Co) (ads1 : Option Addr) (cds1 : Nat) (aks1 : Option Addr) (cks1 : Nat) (p : Addr) (w : World) (hN : Co.bulk (Co.mk k1 v1 ds1 ks1) < N) (hg : Co.good (Co.mk k1 v1 ds1 ks1) = true) (hp : w.cell? p = some (.func (.func 52) #[] #[])) (hr : RdS w (Co.d (Co.mk k1 v1 ds1 ks1)) [.int .i64 k1, .int .i64 v1, .slice ads1 ds1.length cds1, .slice aks1 ks1.length cks1]) :
    Calls Try.prog 75 #[.agg #[.int .i64 k1, .int .i64 v1, .slice ads1 ds1.length cds1, .slice aks1 ks1.length cks1], .pointer (some p)] w fun e w' => e = .returned (.bool (!Co.nor (Co.mk k1 v1 ds1 ks1))) ∧ Below w.heap.size w w' := by
  have hB := (Below.refl w.heap.size w).alloc (Nat.le_refl _) (.cells #[.int .i64 k1, .int .i64 v1, .slice ads1 ds1.length cds1, .slice aks1 ks1.length cks1] 36)
  have HC := hid (ih k1 v1 ds1 ks1 ads1 cds1 aks1 cks1 _ hN hg (hr.below hB))
  have hp' := (hB.cell (p := p) (World.block_lt_of_cell? _ _ hp)).trans hp
  have HB := hid hB
  clear hB hr ih hp hg
  go_enter Try.func75, Try.ntmps75
  go_wp2_with fail
  refine HC.out.mono ?_
  rintro e w1 ⟨rfl, hb⟩
  have HB1 := hid (HB.out.trans (hb.mono HB.out.size))
  clear hb
  go_wp2_with fail
  go_ret
  exact ⟨rfl, HB1.out⟩
set_option maxHeartbeats 1000000 in
theorem nor_anyIndex (N : Nat) (ih : AnyRW N) (ks1 : List Co) (a : Option Addr) (c : Nat) (p : Addr) (w : World) (hN : Co.bulks ks1 ≤ N) (hgs : Co.goods ks1 = true) (hp : w.cell? p = some (.func (.func 52) #[] #[])) (hr : RdL w (Co.ds ks1) (.slice a ks1.length c)) :
    Calls Try.prog 88 #[.slice a ks1.length c, .func (.func 75) #[] #[.pointer (some p)]] w fun e w' => ∃ r : Int, e = .returned (.int .i64 r) ∧ (decide (0 ≤ r) = !Co.nors ks1) ∧ Below w.heap.size w w' := by
  obtain ⟨_, _, e, h2, h3, h4⟩ := hr.eCo
  simp only [Value.slice.injEq, true_and] at e
  obtain ⟨rfl, rfl⟩ := e
  have H4 := hid h4
  have HP := hid hp
  have PL := hid (World.block_lt_of_cell? _ _ hp)
  have HC1 := hid (fun (kk : Int) (vv : Int) (dd : List Int) (qq : List Co) (ad : Option Addr) (cd : Nat) (aq : Option Addr) (cq : Nat) (W : World) => nor_any1 N ih kk vv dd qq ad cd aq cq p W)
  have HN := hid hN
  have HGS := hid hgs
  clear hr h4 ih hp hN hgs
  go_enter Try.func88, Try.ntmps88
  go_wp2_with fail
  go_loopw [5, 8] (fun _ i wr => ∃ (j : Nat), j ≤ ks1.length ∧ i = .int .i64 j ∧ Hid (∀ (i : Nat) t, i < j → ks1[i]? = some t → Co.nor t = true) ∧ Below w.heap.size w wr) (fun _ i _ => ks1.length - (intOf i).toNat)
  case atStart => exact ⟨0, by omega, rfl, fun i t hi => absurd hi (by omega), Below.refl _ _⟩
  case round =>
    obtain ⟨j, hj, rfl, HJ, hb⟩ := hrel
    by_cases hlt : j < ks1.length
    case pos =>
      obtain ⟨b, o, rfl, hbl, hall⟩ := H4.out (by omega)
      obtain ⟨t, ht⟩ : ∃ t, ks1[j]? = some t := ⟨_, List.getElem?_eq_getElem hlt⟩
      obtain ⟨k3, v3, ds3, ks3⟩ := t
      obtain ⟨ads3, cds3, aks3, cks3, q0, q1, q2, q3, hrk⟩ := hall j k3 v3 ds3 ks3 ht
      clear hall H4
      have d0 := (hb.cell (p := ⟨b, o + j * 4, none⟩) hbl).trans q0
      have d1 := (hb.cell (p := ⟨b, o + j * 4 + 1, none⟩) hbl).trans q1
      have d2 := (hb.cell (p := ⟨b, o + j * 4 + 2, none⟩) hbl).trans q2
      have d3 := (hb.cell (p := ⟨b, o + j * 4 + 3, none⟩) hbl).trans q3
      have hbg := Co.bulk_get ks1 j _ ht
      have hc := HC1.out k3 v3 ds3 ks3 ads3 cds3 aks3 cks3 wr (by have := HN.out; omega) (Co.goods_get ks1 j _ HGS.out ht) ((hb.cell PL.out).trans HP.out) (hrk.below hb)
      have HT := hid ht
      by_cases hg : Co.nor (.mk k3 v3 ds3 ks3) = true
      case neg =>
        replace hg := (Bool.not_eq_true _).mp hg
        rw [hg] at hc
        have HC := hid hc
        have HG := hid hg
        clear ht hrk q0 q1 q2 q3 hc hg
        go_wp2_with fail
        refine HC.out.mono ?_
        clear HC
        rintro e w1 ⟨rfl, hb1⟩
        have hbw := hb.trans (hb1.mono hb.size)
        clear hb1
        go_wp2_with fail
        go_ret
        exact ⟨j, rfl, by rw [Co.nors_no ks1 j _ HT.out HG.out]; simp, hbw⟩
      case pos =>
        rw [hg] at hc
        have HC := hid hc
        have HG := hid hg
        clear ht hrk q0 q1 q2 q3 hc hg
        go_wp2_with fail
        refine HC.out.mono ?_
        clear HC
        rintro e w1 ⟨rfl, hb1⟩
        have hbw := hb.trans (hb1.mono hb.size)
        clear hb1
        go_wp2_with fail
        go_roundw
        case rel => exact ⟨j + 1, by omega, by go_num, fun i t hi hti => (Nat.lt_succ_iff_lt_or_eq.1 hi).elim (fun hi => HJ.out i t hi hti) (fun he => by subst he; obtain rfl := Option.some.inj (hti.symm.trans HT.out); exact HG.out), hbw⟩
        case measure => simp [intOf]; omega
    case neg =>
      go_wp2_with fail
      go_ret
      exact ⟨-1, rfl, by rw [Co.nors_yes ks1 fun i t hti => HJ.out i t (by have := (List.getElem?_eq_some_iff.1 hti).1; omega) hti]; simp, hb⟩
theorem nor_anyCont (N : Nat) (ih : AnyRW N) (ks1 : List Co) (a : Option Addr) (c : Nat) (p : Addr) (w : World) (hN : Co.bulks ks1 ≤ N) (hgs : Co.goods ks1 = true) (hp : w.cell? p = some (.func (.func 52) #[] #[])) (hr : RdL w (Co.ds ks1) (.slice a ks1.length c)) :
    Calls Try.prog 70 #[.slice a ks1.length c, .func (.func 75) #[] #[.pointer (some p)]] w fun e w' => e = .returned (.bool (!Co.nors ks1)) ∧ Below w.heap.size w w' := by
  have HC := hid (nor_anyIndex N ih ks1 a c p w hN hgs hp hr)
  clear hr hp ih
  go_enter Try.func70, Try.ntmps70
  go_wp2_with fail
  refine HC.out.mono ?_
  rintro e w1 ⟨r, rfl, hr, hb⟩
  have HR := hid hr
  clear hr
  go_wp2_with fail
  go_ret
  exact ⟨ret_bool HR.out, hb⟩
theorem nor_any_step (N : Nat) (ih : AnyRW N) : AnyRW (N + 1) := by
  intro k1 v1 ds1 ks1 ads1 cds1 aks1 cks1 w hN hg hr
  have hbk : Co.bulk (Co.mk k1 v1 ds1 ks1) = In.bulks ds1 + Co.bulks ks1 := rfl
  have HE := hid (show Co.nor (Co.mk k1 v1 ds1 ks1) = (!(redx k1 ds1.length ks1 != 0) && Co.nors ks1) from (by rw [Co.nor_mk]; congr 1; by_cases h : redx k1 ds1.length ks1 = 0 <;> simp [h]))
  have HX0 := hid (((Boxes.nil w).alloc #[.int .i64 k1, .int .i64 v1, .slice ads1 ds1.length cds1, .slice aks1 ks1.length cks1] 36 (0, 0)).alloc #[.func (.func 52) #[] #[]] 62 (0, 0))
  have hB : Below w.heap.size w ((w.alloc (.cells #[.int .i64 k1, .int .i64 v1, .slice ads1 ds1.length cds1, .slice aks1 ks1.length cks1] 36)).alloc (.cells #[.func (.func 52) #[] #[]] 62)) := ((Below.refl _ _).alloc (Nat.le_refl _) _).alloc (by simp) _
  have hc := fun W (hW : Below w.heap.size w W) hp => nor_anyCont N ih ks1 aks1 cks1 ⟨w.heap.size + 1, 0, none⟩ W (by omega) (Co.good_mk hg).2 hp (hr.fCo.2.2.2.below hW)
  have hv := impl_isRedex k1 v1 ds1 ks1 ads1 cds1 aks1 cks1 ((w.alloc (.cells #[.int .i64 k1, .int .i64 v1, .slice ads1 ds1.length cds1, .slice aks1 ks1.length cks1] 36)).alloc (.cells #[.func (.func 52) #[] #[]] 62)) hg (hr.below hB)
  have HB := hid hB
  have HC := hid hc
  clear hc hr hB ih hbk hN hg
  by_cases hq : (redx k1 ds1.length ks1 != 0) = true
  case pos =>
    rw [hq] at hv
    have HV := hid hv
    have HQ := hid hq
    clear hv hq HC
    go_enter Try.func51, Try.ntmps51
    go_wp2_with fail
    refine HV.out.mono ?_
    rintro e w1 ⟨rfl, hb⟩
    have HB1 := hid (HB.out.trans (hb.mono HB.out.size))
    clear hb
    go_wp2_with fail
    go_ret
    exact ⟨ret_bool (by rw [HE.out, HQ.out]; rfl), HB1.out⟩
  case neg =>
    replace hq := (Bool.not_eq_true _).mp hq
    rw [hq] at hv
    have HV := hid hv
    have HQ := hid hq
    clear hv hq
    go_enter Try.func51, Try.ntmps51
    go_wp2_with fail
    refine HV.out.mono ?_
    rintro e w1 ⟨rfl, hb⟩
    have HB1 := hid (HB.out.trans (hb.mono HB.out.size))
    have HX1 := hid (HX0.out.below hb)
    have g3 := HX1.out.at 1 3 rfl rfl
    have gf := HX1.out.at 0 0 rfl rfl
    simp only [World.size_alloc] at gf
    have GF := hid gf
    clear hb gf
    go_wp2_with fail
    refine (HC.out _ HB1.out GF.out).mono ?_
    rintro e w2 ⟨rfl, hb⟩
    have HB2 := hid (HB1.out.trans (hb.mono HB1.out.size))
    clear hb
    go_wp2_with fail
    go_ret
    exact ⟨ret_bool (by rw [HE.out, HQ.out]; simp), HB2.out⟩
theorem nor_any_all : ∀ N, AnyRW N
  | 0 => fun _ _ _ _ _ _ _ _ _ h => absurd h (by omega)
  | N + 1 => nor_any_step N (nor_any_all N)

theorem impl_isNormalTerm (k1 v1 : Int) (ds1 : List Int) (ks1 : List Co) (ads1 : Option Addr) (cds1 : Nat) (aks1 : Option Addr) (cks1 : Nat) (w : World) (hg : Co.good (Co.mk k1 v1 ds1 ks1) = true) (hr : RdS w (Co.d (Co.mk k1 v1 ds1 ks1)) [.int .i64 k1, .int .i64 v1, .slice ads1 ds1.length cds1, .slice aks1 ks1.length cks1]) :
    Calls Try.prog 27 #[.agg #[.int .i64 k1, .int .i64 v1, .slice ads1 ds1.length cds1, .slice aks1 ks1.length cks1]] w fun e w' => e = .returned (.bool (Co.nor (Co.mk k1 v1 ds1 ks1))) ∧ Below w.heap.size w w' := by
  have hB := (Below.refl w.heap.size w).alloc (Nat.le_refl _) (.cells #[.int .i64 k1, .int .i64 v1, .slice ads1 ds1.length cds1, .slice aks1 ks1.length cks1] 36)
  have hc := nor_any_all (Co.bulk (Co.mk k1 v1 ds1 ks1) + 1) k1 v1 ds1 ks1 ads1 cds1 aks1 cks1 _ (by omega) hg (hr.below hB)
  obtain ⟨z, hz⟩ : ∃ z, z = Co.nor (Co.mk k1 v1 ds1 ks1) := ⟨_, rfl⟩
  rw [← hz] at hc ⊢
  have HC := hid hc
  have HB := hid hB
  clear hc hr hg hB hz
  go_enter Try.func27, Try.ntmps27
  go_wp2_with fail
  refine HC.out.mono ?_
  rintro e w1 ⟨rfl, hb⟩
  have HB1 := hid (HB.out.trans (hb.mono HB.out.size))
  clear hb
  go_wp2_with fail
  go_ret
  exact ⟨by simp, HB1.out⟩
end Go.Proofs.Ytejdbmeoaekhcaa
/- was: BkValid -/
namespace Go.Proofs.Ytejdbmeoaekhcaa
open Go.ChangeShapes Go.WideShapes Go.ChangeAt Go.RowKit Go.BigFrame
open Go.Sort (grow)
set_option linter.unusedVariables false

def defOk (n : Int) (t : Co) : Bool := (Co.ok t && Co.clo t 0) && Co.refs t n
def defsOk (n : Int) : List Co → Bool
  | [] => true
  | t :: ts => defOk n t && defsOk n ts
theorem defsOk_no (n : Int) : ∀ (ts : List Co) (j : Nat) (t : Co), ts[j]? = some t → defOk n t = false → defsOk n ts = false
  | [], j, t, h, _ => by simp at h
  | u :: ts, 0, t, h, e => by simp at h; subst h; simp [defsOk, e]
  | u :: ts, j + 1, t, h, e => by rw [defsOk, defsOk_no n ts j t (by simpa using h) e]; simp
theorem defsOk_yes (n : Int) : ∀ (ts : List Co), (∀ (j : Nat) t, ts[j]? = some t → defOk n t = true) → defsOk n ts = true
  | [], _ => rfl
  | t :: ts, h => by rw [defsOk, h 0 t rfl, defsOk_yes n ts fun j u hj => h (j + 1) u (by simpa using hj)]; rfl
def bookOk (ts : List Co) : Bool := inR ts.length 1 24 && defsOk ts.length ts

theorem spec_l06Closed (k1 : Int) (v1 : Int) (ds1 : List Int) (ks1 : List Co) (ads1 : Option Addr) (cds1 : Nat) (aks1 : Option Addr) (cks1 : Nat) (b1 o1 : Nat) (w : World) (hM : Co.bulk (Co.mk k1 v1 ds1 ks1) ≤ 1048576) (x0 : w.cell? ⟨b1, o1, none⟩ = some (.int .i64 k1)) (x1 : w.cell? ⟨b1, o1 + 1, none⟩ = some (.int .i64 v1)) (x2 : w.cell? ⟨b1, o1 + 2, none⟩ = some (.slice ads1 ds1.length cds1)) (x3 : w.cell? ⟨b1, o1 + 3, none⟩ = some (.slice aks1 ks1.length cks1)) (hr : RdS w (Co.d (Co.mk k1 v1 ds1 ks1)) [.int .i64 k1, .int .i64 v1, .slice ads1 ds1.length cds1, .slice aks1 ks1.length cks1]) :
    Calls Try.prog 44 #[.pointer (some ⟨b1, o1, none⟩)] w fun e w' => e = .returned (.bool (Co.ok (Co.mk k1 v1 ds1 ks1) && Co.clo (Co.mk k1 v1 ds1 ks1) 0)) ∧ Below w.heap.size w w' := by
  have hv := spec_l06Ok k1 v1 ds1 ks1 ads1 cds1 aks1 cks1 b1 o1 w hM x0 x1 x2 x3 hr
  have XL := hid (World.block_lt_of_cell? _ _ x3)
  have X0 := hid x0
  have X1 := hid x1
  have X2 := hid x2
  have X3 := hid x3
  by_cases hok : Co.ok (Co.mk k1 v1 ds1 ks1) = true
  case neg =>
    replace hok := (Bool.not_eq_true _).mp hok
    rw [hok] at hv ⊢
    have HV := hid hv
    clear hr hv hok x0 x1 x2 x3 hM
    go_enter Try.func44, Try.ntmps44
    go_wp2_with fail
    refine HV.out.mono ?_
    rintro e w1 ⟨rfl, hb⟩
    have HB1 := hid hb
    clear hb
    go_wp2_with fail
    go_ret
    exact ⟨rfl, HB1.out⟩
  case pos =>
    have hg := ok_good hok
    have hc := fun W (hb : Below w.heap.size w W) => above_all (Co.bulk (Co.mk k1 v1 ds1 ks1) + 1) k1 v1 ds1 ks1 ads1 cds1 aks1 cks1 b1 o1 0 W (by omega) (by omega) (by omega) hg ((hb.cell (p := ⟨b1, o1, none⟩) XL.out).trans X0.out) ((hb.cell (p := ⟨b1, o1 + 1, none⟩) XL.out).trans X1.out) ((hb.cell (p := ⟨b1, o1 + 2, none⟩) XL.out).trans X2.out) ((hb.cell (p := ⟨b1, o1 + 3, none⟩) XL.out).trans X3.out) (hr.below hb)
    rw [hok] at hv ⊢
    have HV := hid hv
    have HC := hid hc
    clear hr hv hok hc x0 x1 x2 x3 hM hg
    go_enter Try.func44, Try.ntmps44
    go_wp2_with fail
    refine HV.out.mono ?_
    rintro e w1 ⟨rfl, hb⟩
    have HB1 := hid hb
    clear hb
    go_wp2_with fail
    refine (HC.out _ HB1.out).mono ?_
    rintro e w2 ⟨rfl, hb⟩
    have HB2 := hid (HB1.out.trans (hb.mono HB1.out.size))
    clear hb
    go_wp2_with fail
    go_ret
    exact ⟨ret_bool (by simp), HB2.out⟩

set_option maxHeartbeats 1000000 in
theorem spec_l06Book (fs1 : List Co) (afs1 : Option Addr) (cfs1 : Nat) (b1 o1 : Nat) (w : World) (hM : Co.bulks fs1 ≤ 1048576) (x0 : w.cell? ⟨b1, o1, none⟩ = some (.slice afs1 fs1.length cfs1)) (hr : RdS w (Bk.d (.mk fs1)) [.slice afs1 fs1.length cfs1]) :
    Calls Try.prog 43 #[.pointer (some ⟨b1, o1, none⟩)] w fun e w' => e = .returned (.bool (bookOk fs1)) ∧ Below w.heap.size w w' := by
  obtain ⟨_, _, e, h2, h3, h4⟩ := hr.fBk.eCo
  simp only [Value.slice.injEq, true_and] at e
  obtain ⟨rfl, rfl⟩ := e
  have H4 := hid h4
  have XL := hid (World.block_lt_of_cell? _ _ x0)
  have X0 := hid x0
  have hlen := Co.bulks_length fs1
  have HM := hid hM
  clear hr h4
  by_cases hi : inR fs1.length 1 24 = true
  case neg =>
    replace hi := (Bool.not_eq_true _).mp hi
    have HF := hid (show bookOk fs1 = false by rw [bookOk, hi]; rfl)
    have HI := hid hi
    clear hi H4 hM
    go_enter Try.func43, Try.ntmps43
    go_wp2_with fail
    refine (spec_In _ _ _ _).mono ?_
    rw [HI.out]
    rintro e w2 ⟨rfl, rfl⟩
    go_wp2_with fail
    go_ret
    exact ⟨ret_bool HF.out.symm, Below.refl _ _⟩
  case pos =>
    have HF := hid (show bookOk fs1 = defsOk fs1.length fs1 by rw [bookOk, hi]; rfl)
    have HI := hid hi
    clear hi hM
    go_enter Try.func43, Try.ntmps43
    go_wp2_with fail
    refine (spec_In _ _ _ _).mono ?_
    rw [HI.out]
    rintro e w2 ⟨rfl, rfl⟩
    go_wp2_with fail
    go_loopw [3] (fun i wr => ∃ (j : Nat), j ≤ fs1.length ∧ i = .int .i64 j ∧ Hid (∀ (i : Nat) t, i < j → fs1[i]? = some t → defOk fs1.length t = true) ∧ Below w.heap.size w wr) (fun i _ => fs1.length - (intOf i).toNat)
    case atStart => exact ⟨0, by omega, rfl, fun i t hi => absurd hi (by omega), Below.refl _ _⟩
    case round =>
      obtain ⟨j, hj, rfl, HJ, hb⟩ := hrel
      have z0 := (hb.cell (p := ⟨b1, o1, none⟩) XL.out).trans X0.out
      by_cases hlt : j < fs1.length
      case pos =>
        obtain ⟨b, o, rfl, hbl, hall⟩ := H4.out (by omega)
        obtain ⟨t, ht⟩ : ∃ t, fs1[j]? = some t := ⟨_, List.getElem?_eq_getElem hlt⟩
        obtain ⟨k3, v3, ds3, ks3⟩ := t
        obtain ⟨ads3, cds3, aks3, cks3, q0, q1, q2, q3, hrk⟩ := hall j k3 v3 ds3 ks3 ht
        clear hall H4
        have hbg := Co.bulk_get fs1 j _ ht
        have hM3 : Co.bulk (.mk k3 v3 ds3 ks3) ≤ 1048576 := by have := HM.out; omega
        have hc1 := fun d os => Calls.regrown_of (spec_l06Closed k3 v3 ds3 ks3 ads3 cds3 aks3 cks3 b (o + j * 4) (grow (redrawn wr d) os) hM3 (cell_regrown ((hb.cell (p := ⟨b, o + j * 4, none⟩) hbl).trans q0) d os) (cell_regrown ((hb.cell (p := ⟨b, o + j * 4 + 1, none⟩) hbl).trans q1) d os) (cell_regrown ((hb.cell (p := ⟨b, o + j * 4 + 2, none⟩) hbl).trans q2) d os) (cell_regrown ((hb.cell (p := ⟨b, o + j * 4 + 3, none⟩) hbl).trans q3) d os) ((hrk.below hb).below (below_regrown wr d os)))
        have hc2 := fun d os => Calls.regrown_of (ref_all (Co.bulk (.mk k3 v3 ds3 ks3) + 1) k3 v3 ds3 ks3 ads3 cds3 aks3 cks3 b (o + j * 4) fs1.length (grow (redrawn wr d) os) (by omega) (cell_regrown ((hb.cell (p := ⟨b, o + j * 4, none⟩) hbl).trans q0) d os) (cell_regrown ((hb.cell (p := ⟨b, o + j * 4 + 1, none⟩) hbl).trans q1) d os) (cell_regrown ((hb.cell (p := ⟨b, o + j * 4 + 2, none⟩) hbl).trans q2) d os) (cell_regrown ((hb.cell (p := ⟨b, o + j * 4 + 3, none⟩) hbl).trans q3) d os) ((hrk.below hb).below (below_regrown wr d os)))
        have HT := hid ht
        have z0' := cell_regrown z0
        by_cases hk : (Co.ok (.mk k3 v3 ds3 ks3) && Co.clo (.mk k3 v3 ds3 ks3) 0) = true
        case neg =>
          replace hk := (Bool.not_eq_true _).mp hk
          have HG := hid (show defOk fs1.length (.mk k3 v3 ds3 ks3) = false by rw [defOk, hk]; rfl)
          rw [hk] at hc1
          have HC := hid hc1
          clear ht hrk q0 q1 q2 q3 hc1 hc2 hk hM3 hbg
          go_wp2_with fail
          refine wp_region_quiet_below (by kernel_rfl) (by kernel_rfl) ?_
          repeat (go_big_quiet_step (exact HC.out _ _))
          refine wpQuiet_nil ?_
          intro _ hw'
          obtain ⟨⟨dq, osq⟩, hw''⟩ := hw'
          subst hw''
          have hbw := hb.trans ((below_regrown wr dq osq).mono hb.size)
          clear HC z0 z0'
          go_wp2_with fail
          go_ret
          exact ⟨ret_bool (by rw [HF.out, defsOk_no _ fs1 j _ HT.out HG.out]), hbw⟩
        case pos =>
          have HG0 := hid (show defOk fs1.length (.mk k3 v3 ds3 ks3) = Co.refs (.mk k3 v3 ds3 ks3) fs1.length by rw [defOk, hk]; rfl)
          rw [hk] at hc1
          have HC := hid hc1
          by_cases hq : Co.refs (.mk k3 v3 ds3 ks3) fs1.length = true
          all_goals
            first | rw [hq] at hc2 | rw [(Bool.not_eq_true _).mp hq] at hc2
            have HC2 := hid hc2
            have HQ := hid hq
            clear ht hrk q0 q1 q2 q3 hc1 hc2 hk hM3 hbg hq
            go_wp2_with fail
            refine wp_region_quiet_below (by kernel_rfl) (by kernel_rfl) ?_
            repeat (go_big_quiet_step (first | exact HC.out _ _ | exact HC2.out _ _))
            refine wpQuiet_nil ?_
            intro _ hw'
            obtain ⟨⟨dq, osq⟩, hw''⟩ := hw'
            subst hw''
            have hbw := hb.trans ((below_regrown wr dq osq).mono hb.size)
            clear HC HC2 z0 z0'
            go_wp2_with fail
          · go_roundw
            case rel => exact ⟨j + 1, by omega, by go_num, fun i t hi hti => (Nat.lt_succ_iff_lt_or_eq.1 hi).elim (fun hi => HJ.out i t hi hti) (fun he => by subst he; obtain rfl := Option.some.inj (hti.symm.trans HT.out); exact HG0.out.trans HQ.out), hbw⟩
            case measure => simp [intOf]; omega
          · go_ret
            exact ⟨ret_bool (by rw [HF.out, defsOk_no _ fs1 j _ HT.out (HG0.out.trans ((Bool.not_eq_true _).mp HQ.out))]), hbw⟩
      case neg =>
        go_wp2_with fail
        go_ret
        exact ⟨ret_bool (by rw [HF.out, defsOk_yes _ fs1 fun i t hti => HJ.out i t (by have := (List.getElem?_eq_some_iff.1 hti).1; omega) hti]), hb⟩
end Go.Proofs.Ytejdbmeoaekhcaa
/- was: DCl -/
namespace Go.Proofs.Ytejdbmeoaekhcaa
open Go.RowKit

inductive Cl where
  | mk (t : Co) (es : List Int)
def Cl.d : Cl → D
  | .mk t es => .struct [Co.d t, .list (In.ds es)]
def Cl.ds : List Cl → List D
  | [] => []
  | t :: ts => Cl.d t :: Cl.ds ts

/-- Nodes and letters. -/
def Cl.bulk : Cl → Nat
  | .mk t es => Co.bulk t + In.bulks es
def Cl.bulks : List Cl → Nat
  | [] => 0
  | t :: ts => 1 + Cl.bulk t + Cl.bulks ts

theorem Cl.d_len (t : Cl) : (Cl.d t).len = 5 := by cases t; simp [Cl.d, D.len, D.lens, Co.d_len]
theorem Cl.ds_length : ∀ ts : List Cl, (Cl.ds ts).length = ts.length
  | [] => rfl
  | t :: ts => by simp [Cl.ds, Cl.ds_length ts]
theorem Cl.ds_get : ∀ (ts : List Cl) (i : Nat), (Cl.ds ts)[i]? = (ts[i]?).map Cl.d
  | [], i => by simp [Cl.ds]
  | t :: ts, 0 => by simp [Cl.ds]
  | t :: ts, i + 1 => by simp [Cl.ds, Cl.ds_get ts i]
theorem Cl.ds_snoc : ∀ (ts : List Cl) (i : Nat) (t : Cl), ts[i]? = some t → Cl.ds (ts.take (i + 1)) = Cl.ds (ts.take i) ++ [Cl.d t]
  | [], i, t, h => by simp at h
  | u :: ts, 0, t, h => by simp at h; subst h; simp [Cl.ds]
  | u :: ts, i + 1, t, h => by have := Cl.ds_snoc ts i t (by simpa using h); simp [Cl.ds, this]
theorem Cl.ds_append : ∀ (ts us : List Cl), Cl.ds (ts ++ us) = Cl.ds ts ++ Cl.ds us
  | [], us => rfl
  | t :: ts, us => by simp [Cl.ds, Cl.ds_append ts us]
theorem Cl.ds_len : ∀ (ts : List Cl), ∀ d ∈ Cl.ds ts, d.len = 5
  | [], d, h => by simp [Cl.ds] at h
  | t :: ts, d, h => by
    simp only [Cl.ds, List.mem_cons] at h
    rcases h with rfl | h
    · exact Cl.d_len t
    · exact Cl.ds_len ts d h
theorem Cl.bulks_length : ∀ ts : List Cl, ts.length ≤ Cl.bulks ts
  | [] => by simp
  | t :: ts => by have := Cl.bulks_length ts; simp [Cl.bulks]; omega
theorem Cl.bulk_get : ∀ (ts : List Cl) (i : Nat) (t : Cl), ts[i]? = some t → Cl.bulk t < Cl.bulks ts
  | [], i, t, h => by simp at h
  | u :: ts, 0, t, h => by simp at h; subst h; simp [Cl.bulks]; omega
  | u :: ts, i + 1, t, h => by have := Cl.bulk_get ts i t (by simpa using h); simp [Cl.bulks]; omega
theorem Cl.bulks_take : ∀ (ts : List Cl) (i : Nat) (t : Cl), ts[i]? = some t → Cl.bulks (ts.take (i + 1)) = Cl.bulks (ts.take i) + 1 + Cl.bulk t
  | [], i, t, h => by simp at h
  | u :: ts, 0, t, h => by simp at h; subst h; simp [Cl.bulks]
  | u :: ts, i + 1, t, h => by have := Cl.bulks_take ts i t (by simpa using h); simp [Cl.bulks] at *; omega
theorem Cl.bulks_le : ∀ (ts : List Cl) (i : Nat), Cl.bulks (ts.take i) + (ts.length - i) ≤ Cl.bulks ts
  | [], i => by simp
  | u :: ts, 0 => by have := Cl.bulks_length ts; simp [Cl.bulks]; omega
  | u :: ts, i + 1 => by have := Cl.bulks_le ts i; simp [Cl.bulks]; omega
theorem Rd.Cl_inv {w : World} {tk : Int} {tv : Int} {tds : List Int} {tks : List Co} {es : List Int} {cs : List Value} {F : List Nat} (h : Rd w (Cl.d (Cl.mk (Co.mk tk tv tds tks) es)) cs F) : ∃ (atds : Option Addr) (ctds : Nat) (atks : Option Addr) (ctks : Nat) (aes : Option Addr) (ces : Nat), cs = [.int .i64 tk, .int .i64 tv, .slice atds tds.length ctds, .slice atks tks.length ctks, .slice aes es.length ces] ∧ (((-9223372036854775808 ≤ tk ∧ tk ≤ 9223372036854775807) ∧ (-9223372036854775808 ≤ tv ∧ tv ≤ 9223372036854775807) ∧ RdL w (In.ds tds) (.slice atds tds.length ctds) ∧ RdL w (Co.ds tks) (.slice atks tks.length ctks)) ∧ RdL w (In.ds es) (.slice aes es.length ces)) := by
  obtain ⟨e1, r1, F1, G1, rfl, rfl, g1, k1⟩ := h.struct_inv.cons_inv
  obtain ⟨a1_ds, c1_ds, a1_ks, c1_ks, rfl, n1⟩ := g1.Co_inv
  obtain ⟨e2, r2, F2, G2, rfl, rfl, g2, k2⟩ := k1.cons_inv
  obtain ⟨a2, c2, rfl, -⟩ := g2.list_inv
  rw [In.ds_length] at g2
  obtain ⟨rfl, rfl⟩ := k2.nil_inv
  refine ⟨a1_ds, c1_ds, a1_ks, c1_ks, a2, c2, by simp [In.ds_length], ?_⟩
  exact ⟨n1, ⟨F2, g2⟩⟩
theorem RdS.fCl {w : World} {tk : Int} {tv : Int} {tds : List Int} {tks : List Co} {es : List Int} {atds : Option Addr} {ctds : Nat} {atks : Option Addr} {ctks : Nat} {aes : Option Addr} {ces : Nat} (h : RdS w (Cl.d (Cl.mk (Co.mk tk tv tds tks) es)) [.int .i64 tk, .int .i64 tv, .slice atds tds.length ctds, .slice atks tks.length ctks, .slice aes es.length ces]) : ((-9223372036854775808 ≤ tk ∧ tk ≤ 9223372036854775807) ∧ (-9223372036854775808 ≤ tv ∧ tv ≤ 9223372036854775807) ∧ RdL w (In.ds tds) (.slice atds tds.length ctds) ∧ RdL w (Co.ds tks) (.slice atks tks.length ctks)) ∧ RdL w (In.ds es) (.slice aes es.length ces) := by
  obtain ⟨F, h⟩ := h
  obtain ⟨atds', ctds', atks', ctks', aes', ces', e, hf⟩ := h.Cl_inv
  simp only [List.cons.injEq, Value.slice.injEq, true_and, and_true] at e
  obtain ⟨⟨rfl, rfl⟩, ⟨rfl, rfl⟩, ⟨rfl, rfl⟩⟩ := e
  exact hf

/-- A slice of these: the value, and what each element's cells hold. -/
theorem RdL.eCl {w : World} {ts : List Cl} {v : Value} (h : RdL w (Cl.ds ts) v) : ∃ (a : Option Addr) (cap : Nat), v = .slice a ts.length cap ∧ ts.length ≤ cap ∧ cap ≤ 9223372036854775807 ∧
    (0 < ts.length → ∃ b o, a = some ⟨b, o, none⟩ ∧ b < w.heap.size ∧ ∀ (i : Nat) (tk : Int) (tv : Int) (tds : List Int) (tks : List Co) (es : List Int), ts[i]? = some (Cl.mk (Co.mk tk tv tds tks) es) → ∃ (atds : Option Addr) (ctds : Nat) (atks : Option Addr) (ctks : Nat) (aes : Option Addr) (ces : Nat), 
      w.cell? ⟨b, o + i * 5, none⟩ = some (.int .i64 tk) ∧ w.cell? ⟨b, o + i * 5 + 1, none⟩ = some (.int .i64 tv) ∧ w.cell? ⟨b, o + i * 5 + 2, none⟩ = some (.slice atds tds.length ctds) ∧ w.cell? ⟨b, o + i * 5 + 3, none⟩ = some (.slice atks tks.length ctks) ∧ w.cell? ⟨b, o + i * 5 + 4, none⟩ = some (.slice aes es.length ces) ∧ RdS w (Cl.d (Cl.mk (Co.mk tk tv tds tks) es)) [.int .i64 tk, .int .i64 tv, .slice atds tds.length ctds, .slice atks tks.length ctks, .slice aes es.length ces]) := by
  obtain ⟨F, h⟩ := h
  obtain ⟨a, cap, h1, h2, h3, h4⟩ := h.list_inv
  rw [Cl.ds_length] at h1 h2
  simp only [List.cons.injEq, and_true] at h1
  refine ⟨a, cap, h1, h2, h3, fun hp => ?_⟩
  rcases h4 with ⟨h4, _⟩ | ⟨b, o, xs, F', _, rfl, rfl, hb, hx, hr⟩
  · have := congrArg List.length h4; rw [Cl.ds_length] at this; simp at this; simp [this] at hp
  · refine ⟨b, o, rfl, hb, fun i tk tv tds tks es hi => ?_⟩
    obtain ⟨cs, Fi, k1, k2, _⟩ := hr.get (Cl.ds_len ts) (i := i) (d := Cl.d (Cl.mk (Co.mk tk tv tds tks) es)) (by rw [Cl.ds_get, hi]; rfl)
    obtain ⟨atds, ctds, atks, ctks, aes, ces, e, -⟩ := k2.Cl_inv
    subst e
    refine ⟨atds, ctds, atks, ctks, aes, ces, ?_, ?_, ?_, ?_, ?_, ⟨Fi, k2⟩⟩
    · have := hx _ _ (k1 0 (.int .i64 tk) rfl); simpa [Nat.add_assoc] using this
    · have := hx _ _ (k1 1 (.int .i64 tv) rfl); simpa [Nat.add_assoc] using this
    · have := hx _ _ (k1 2 (.slice atds tds.length ctds) rfl); simpa [Nat.add_assoc] using this
    · have := hx _ _ (k1 3 (.slice atks tks.length ctks) rfl); simpa [Nat.add_assoc] using this
    · have := hx _ _ (k1 4 (.slice aes es.length ces) rfl); simpa [Nat.add_assoc] using this

end Go.Proofs.Ytejdbmeoaekhcaa
/- was: DFr -/
namespace Go.Proofs.Ytejdbmeoaekhcaa
open Go.RowKit

inductive Fr where
  | mk (k : Int) (v : Int) (ds : List Int) (c : Cl)
def Fr.d : Fr → D
  | .mk k v ds c => .struct [.int k, .int v, .list (In.ds ds), Cl.d c]
def Fr.ds : List Fr → List D
  | [] => []
  | t :: ts => Fr.d t :: Fr.ds ts

/-- Nodes and letters. -/
def Fr.bulk : Fr → Nat
  | .mk _ _ ds c => In.bulks ds + Cl.bulk c
def Fr.bulks : List Fr → Nat
  | [] => 0
  | t :: ts => 1 + Fr.bulk t + Fr.bulks ts

theorem Fr.d_len (t : Fr) : (Fr.d t).len = 8 := by cases t; simp [Fr.d, D.len, D.lens, Cl.d_len]
theorem Fr.ds_length : ∀ ts : List Fr, (Fr.ds ts).length = ts.length
  | [] => rfl
  | t :: ts => by simp [Fr.ds, Fr.ds_length ts]
theorem Fr.ds_get : ∀ (ts : List Fr) (i : Nat), (Fr.ds ts)[i]? = (ts[i]?).map Fr.d
  | [], i => by simp [Fr.ds]
  | t :: ts, 0 => by simp [Fr.ds]
  | t :: ts, i + 1 => by simp [Fr.ds, Fr.ds_get ts i]
theorem Fr.ds_snoc : ∀ (ts : List Fr) (i : Nat) (t : Fr), ts[i]? = some t → Fr.ds (ts.take (i + 1)) = Fr.ds (ts.take i) ++ [Fr.d t]
  | [], i, t, h => by simp at h
  | u :: ts, 0, t, h => by simp at h; subst h; simp [Fr.ds]
  | u :: ts, i + 1, t, h => by have := Fr.ds_snoc ts i t (by simpa using h); simp [Fr.ds, this]
theorem Fr.ds_append : ∀ (ts us : List Fr), Fr.ds (ts ++ us) = Fr.ds ts ++ Fr.ds us
  | [], us => rfl
  | t :: ts, us => by simp [Fr.ds, Fr.ds_append ts us]
theorem Fr.ds_len : ∀ (ts : List Fr), ∀ d ∈ Fr.ds ts, d.len = 8
  | [], d, h => by simp [Fr.ds] at h
  | t :: ts, d, h => by
    simp only [Fr.ds, List.mem_cons] at h
    rcases h with rfl | h
    · exact Fr.d_len t
    · exact Fr.ds_len ts d h
theorem Fr.bulks_length : ∀ ts : List Fr, ts.length ≤ Fr.bulks ts
  | [] => by simp
  | t :: ts => by have := Fr.bulks_length ts; simp [Fr.bulks]; omega
theorem Fr.bulk_get : ∀ (ts : List Fr) (i : Nat) (t : Fr), ts[i]? = some t → Fr.bulk t < Fr.bulks ts
  | [], i, t, h => by simp at h
  | u :: ts, 0, t, h => by simp at h; subst h; simp [Fr.bulks]; omega
  | u :: ts, i + 1, t, h => by have := Fr.bulk_get ts i t (by simpa using h); simp [Fr.bulks]; omega
theorem Fr.bulks_take : ∀ (ts : List Fr) (i : Nat) (t : Fr), ts[i]? = some t → Fr.bulks (ts.take (i + 1)) = Fr.bulks (ts.take i) + 1 + Fr.bulk t
  | [], i, t, h => by simp at h
  | u :: ts, 0, t, h => by simp at h; subst h; simp [Fr.bulks]
  | u :: ts, i + 1, t, h => by have := Fr.bulks_take ts i t (by simpa using h); simp [Fr.bulks] at *; omega
theorem Fr.bulks_le : ∀ (ts : List Fr) (i : Nat), Fr.bulks (ts.take i) + (ts.length - i) ≤ Fr.bulks ts
  | [], i => by simp
  | u :: ts, 0 => by have := Fr.bulks_length ts; simp [Fr.bulks]; omega
  | u :: ts, i + 1 => by have := Fr.bulks_le ts i; simp [Fr.bulks]; omega
theorem Rd.Fr_inv {w : World} {k : Int} {v : Int} {ds : List Int} {ctk : Int} {ctv : Int} {ctds : List Int} {ctks : List Co} {ces : List Int} {cs : List Value} {F : List Nat} (h : Rd w (Fr.d (Fr.mk k v ds (Cl.mk (Co.mk ctk ctv ctds ctks) ces))) cs F) : ∃ (ads : Option Addr) (cds : Nat) (actds : Option Addr) (cctds : Nat) (actks : Option Addr) (cctks : Nat) (aces : Option Addr) (cces : Nat), cs = [.int .i64 k, .int .i64 v, .slice ads ds.length cds, .int .i64 ctk, .int .i64 ctv, .slice actds ctds.length cctds, .slice actks ctks.length cctks, .slice aces ces.length cces] ∧ ((-9223372036854775808 ≤ k ∧ k ≤ 9223372036854775807) ∧ (-9223372036854775808 ≤ v ∧ v ≤ 9223372036854775807) ∧ RdL w (In.ds ds) (.slice ads ds.length cds) ∧ (((-9223372036854775808 ≤ ctk ∧ ctk ≤ 9223372036854775807) ∧ (-9223372036854775808 ≤ ctv ∧ ctv ≤ 9223372036854775807) ∧ RdL w (In.ds ctds) (.slice actds ctds.length cctds) ∧ RdL w (Co.ds ctks) (.slice actks ctks.length cctks)) ∧ RdL w (In.ds ces) (.slice aces ces.length cces))) := by
  obtain ⟨e1, r1, F1, G1, rfl, rfl, g1, k1⟩ := h.struct_inv.cons_inv
  obtain ⟨rfl, rfl, n1a, n1b⟩ := g1.int_inv
  obtain ⟨e2, r2, F2, G2, rfl, rfl, g2, k2⟩ := k1.cons_inv
  obtain ⟨rfl, rfl, n2a, n2b⟩ := g2.int_inv
  obtain ⟨e3, r3, F3, G3, rfl, rfl, g3, k3⟩ := k2.cons_inv
  obtain ⟨a3, c3, rfl, -⟩ := g3.list_inv
  rw [In.ds_length] at g3
  obtain ⟨e4, r4, F4, G4, rfl, rfl, g4, k4⟩ := k3.cons_inv
  obtain ⟨a4_tds, c4_tds, a4_tks, c4_tks, a4_es, c4_es, rfl, n4⟩ := g4.Cl_inv
  obtain ⟨rfl, rfl⟩ := k4.nil_inv
  refine ⟨a3, c3, a4_tds, c4_tds, a4_tks, c4_tks, a4_es, c4_es, by simp [In.ds_length], ?_⟩
  exact ⟨⟨n1a, n1b⟩, ⟨n2a, n2b⟩, ⟨F3, g3⟩, n4⟩
theorem RdS.fFr {w : World} {k : Int} {v : Int} {ds : List Int} {ctk : Int} {ctv : Int} {ctds : List Int} {ctks : List Co} {ces : List Int} {ads : Option Addr} {cds : Nat} {actds : Option Addr} {cctds : Nat} {actks : Option Addr} {cctks : Nat} {aces : Option Addr} {cces : Nat} (h : RdS w (Fr.d (Fr.mk k v ds (Cl.mk (Co.mk ctk ctv ctds ctks) ces))) [.int .i64 k, .int .i64 v, .slice ads ds.length cds, .int .i64 ctk, .int .i64 ctv, .slice actds ctds.length cctds, .slice actks ctks.length cctks, .slice aces ces.length cces]) : (-9223372036854775808 ≤ k ∧ k ≤ 9223372036854775807) ∧ (-9223372036854775808 ≤ v ∧ v ≤ 9223372036854775807) ∧ RdL w (In.ds ds) (.slice ads ds.length cds) ∧ (((-9223372036854775808 ≤ ctk ∧ ctk ≤ 9223372036854775807) ∧ (-9223372036854775808 ≤ ctv ∧ ctv ≤ 9223372036854775807) ∧ RdL w (In.ds ctds) (.slice actds ctds.length cctds) ∧ RdL w (Co.ds ctks) (.slice actks ctks.length cctks)) ∧ RdL w (In.ds ces) (.slice aces ces.length cces)) := by
  obtain ⟨F, h⟩ := h
  obtain ⟨ads', cds', actds', cctds', actks', cctks', aces', cces', e, hf⟩ := h.Fr_inv
  simp only [List.cons.injEq, Value.slice.injEq, true_and, and_true] at e
  obtain ⟨⟨rfl, rfl⟩, ⟨rfl, rfl⟩, ⟨rfl, rfl⟩, ⟨rfl, rfl⟩⟩ := e
  exact hf

/-- A slice of these: the value, and what each element's cells hold. -/
theorem RdL.eFr {w : World} {ts : List Fr} {v : Value} (h : RdL w (Fr.ds ts) v) : ∃ (a : Option Addr) (cap : Nat), v = .slice a ts.length cap ∧ ts.length ≤ cap ∧ cap ≤ 9223372036854775807 ∧
    (0 < ts.length → ∃ b o, a = some ⟨b, o, none⟩ ∧ b < w.heap.size ∧ ∀ (i : Nat) (k : Int) (v : Int) (ds : List Int) (ctk : Int) (ctv : Int) (ctds : List Int) (ctks : List Co) (ces : List Int), ts[i]? = some (Fr.mk k v ds (Cl.mk (Co.mk ctk ctv ctds ctks) ces)) → ∃ (ads : Option Addr) (cds : Nat) (actds : Option Addr) (cctds : Nat) (actks : Option Addr) (cctks : Nat) (aces : Option Addr) (cces : Nat), 
      w.cell? ⟨b, o + i * 8, none⟩ = some (.int .i64 k) ∧ w.cell? ⟨b, o + i * 8 + 1, none⟩ = some (.int .i64 v) ∧ w.cell? ⟨b, o + i * 8 + 2, none⟩ = some (.slice ads ds.length cds) ∧ w.cell? ⟨b, o + i * 8 + 3, none⟩ = some (.int .i64 ctk) ∧ w.cell? ⟨b, o + i * 8 + 4, none⟩ = some (.int .i64 ctv) ∧ w.cell? ⟨b, o + i * 8 + 5, none⟩ = some (.slice actds ctds.length cctds) ∧ w.cell? ⟨b, o + i * 8 + 6, none⟩ = some (.slice actks ctks.length cctks) ∧ w.cell? ⟨b, o + i * 8 + 7, none⟩ = some (.slice aces ces.length cces) ∧ RdS w (Fr.d (Fr.mk k v ds (Cl.mk (Co.mk ctk ctv ctds ctks) ces))) [.int .i64 k, .int .i64 v, .slice ads ds.length cds, .int .i64 ctk, .int .i64 ctv, .slice actds ctds.length cctds, .slice actks ctks.length cctks, .slice aces ces.length cces]) := by
  obtain ⟨F, h⟩ := h
  obtain ⟨a, cap, h1, h2, h3, h4⟩ := h.list_inv
  rw [Fr.ds_length] at h1 h2
  simp only [List.cons.injEq, and_true] at h1
  refine ⟨a, cap, h1, h2, h3, fun hp => ?_⟩
  rcases h4 with ⟨h4, _⟩ | ⟨b, o, xs, F', _, rfl, rfl, hb, hx, hr⟩
  · have := congrArg List.length h4; rw [Fr.ds_length] at this; simp at this; simp [this] at hp
  · refine ⟨b, o, rfl, hb, fun i k v ds ctk ctv ctds ctks ces hi => ?_⟩
    obtain ⟨cs, Fi, k1, k2, _⟩ := hr.get (Fr.ds_len ts) (i := i) (d := Fr.d (Fr.mk k v ds (Cl.mk (Co.mk ctk ctv ctds ctks) ces))) (by rw [Fr.ds_get, hi]; rfl)
    obtain ⟨ads, cds, actds, cctds, actks, cctks, aces, cces, e, -⟩ := k2.Fr_inv
    subst e
    refine ⟨ads, cds, actds, cctds, actks, cctks, aces, cces, ?_, ?_, ?_, ?_, ?_, ?_, ?_, ?_, ⟨Fi, k2⟩⟩
    · have := hx _ _ (k1 0 (.int .i64 k) rfl); simpa [Nat.add_assoc] using this
    · have := hx _ _ (k1 1 (.int .i64 v) rfl); simpa [Nat.add_assoc] using this
    · have := hx _ _ (k1 2 (.slice ads ds.length cds) rfl); simpa [Nat.add_assoc] using this
    · have := hx _ _ (k1 3 (.int .i64 ctk) rfl); simpa [Nat.add_assoc] using this
    · have := hx _ _ (k1 4 (.int .i64 ctv) rfl); simpa [Nat.add_assoc] using this
    · have := hx _ _ (k1 5 (.slice actds ctds.length cctds) rfl); simpa [Nat.add_assoc] using this
    · have := hx _ _ (k1 6 (.slice actks ctks.length cctks) rfl); simpa [Nat.add_assoc] using this
    · have := hx _ _ (k1 7 (.slice aces ces.length cces) rfl); simpa [Nat.add_assoc] using this

end Go.Proofs.Ytejdbmeoaekhcaa
/- was: DTh -/
namespace Go.Proofs.Ytejdbmeoaekhcaa
open Go.RowKit

inductive Th where
  | mk (dn : Bool) (c : Cl)
def Th.d : Th → D
  | .mk dn c => .struct [.bool dn, Cl.d c]
def Th.ds : List Th → List D
  | [] => []
  | t :: ts => Th.d t :: Th.ds ts

/-- Nodes and letters. -/
def Th.bulk : Th → Nat
  | .mk _ c => Cl.bulk c
def Th.bulks : List Th → Nat
  | [] => 0
  | t :: ts => 1 + Th.bulk t + Th.bulks ts

theorem Th.d_len (t : Th) : (Th.d t).len = 6 := by cases t; simp [Th.d, D.len, D.lens, Cl.d_len]
theorem Th.ds_length : ∀ ts : List Th, (Th.ds ts).length = ts.length
  | [] => rfl
  | t :: ts => by simp [Th.ds, Th.ds_length ts]
theorem Th.ds_get : ∀ (ts : List Th) (i : Nat), (Th.ds ts)[i]? = (ts[i]?).map Th.d
  | [], i => by simp [Th.ds]
  | t :: ts, 0 => by simp [Th.ds]
  | t :: ts, i + 1 => by simp [Th.ds, Th.ds_get ts i]
theorem Th.ds_snoc : ∀ (ts : List Th) (i : Nat) (t : Th), ts[i]? = some t → Th.ds (ts.take (i + 1)) = Th.ds (ts.take i) ++ [Th.d t]
  | [], i, t, h => by simp at h
  | u :: ts, 0, t, h => by simp at h; subst h; simp [Th.ds]
  | u :: ts, i + 1, t, h => by have := Th.ds_snoc ts i t (by simpa using h); simp [Th.ds, this]
theorem Th.ds_append : ∀ (ts us : List Th), Th.ds (ts ++ us) = Th.ds ts ++ Th.ds us
  | [], us => rfl
  | t :: ts, us => by simp [Th.ds, Th.ds_append ts us]
theorem Th.ds_len : ∀ (ts : List Th), ∀ d ∈ Th.ds ts, d.len = 6
  | [], d, h => by simp [Th.ds] at h
  | t :: ts, d, h => by
    simp only [Th.ds, List.mem_cons] at h
    rcases h with rfl | h
    · exact Th.d_len t
    · exact Th.ds_len ts d h
theorem Th.bulks_length : ∀ ts : List Th, ts.length ≤ Th.bulks ts
  | [] => by simp
  | t :: ts => by have := Th.bulks_length ts; simp [Th.bulks]; omega
theorem Th.bulk_get : ∀ (ts : List Th) (i : Nat) (t : Th), ts[i]? = some t → Th.bulk t < Th.bulks ts
  | [], i, t, h => by simp at h
  | u :: ts, 0, t, h => by simp at h; subst h; simp [Th.bulks]; omega
  | u :: ts, i + 1, t, h => by have := Th.bulk_get ts i t (by simpa using h); simp [Th.bulks]; omega
theorem Th.bulks_take : ∀ (ts : List Th) (i : Nat) (t : Th), ts[i]? = some t → Th.bulks (ts.take (i + 1)) = Th.bulks (ts.take i) + 1 + Th.bulk t
  | [], i, t, h => by simp at h
  | u :: ts, 0, t, h => by simp at h; subst h; simp [Th.bulks]
  | u :: ts, i + 1, t, h => by have := Th.bulks_take ts i t (by simpa using h); simp [Th.bulks] at *; omega
theorem Th.bulks_le : ∀ (ts : List Th) (i : Nat), Th.bulks (ts.take i) + (ts.length - i) ≤ Th.bulks ts
  | [], i => by simp
  | u :: ts, 0 => by have := Th.bulks_length ts; simp [Th.bulks]; omega
  | u :: ts, i + 1 => by have := Th.bulks_le ts i; simp [Th.bulks]; omega
theorem Rd.Th_inv {w : World} {dn : Bool} {ctk : Int} {ctv : Int} {ctds : List Int} {ctks : List Co} {ces : List Int} {cs : List Value} {F : List Nat} (h : Rd w (Th.d (Th.mk dn (Cl.mk (Co.mk ctk ctv ctds ctks) ces))) cs F) : ∃ (actds : Option Addr) (cctds : Nat) (actks : Option Addr) (cctks : Nat) (aces : Option Addr) (cces : Nat), cs = [.bool dn, .int .i64 ctk, .int .i64 ctv, .slice actds ctds.length cctds, .slice actks ctks.length cctks, .slice aces ces.length cces] ∧ ((((-9223372036854775808 ≤ ctk ∧ ctk ≤ 9223372036854775807) ∧ (-9223372036854775808 ≤ ctv ∧ ctv ≤ 9223372036854775807) ∧ RdL w (In.ds ctds) (.slice actds ctds.length cctds) ∧ RdL w (Co.ds ctks) (.slice actks ctks.length cctks)) ∧ RdL w (In.ds ces) (.slice aces ces.length cces))) := by
  obtain ⟨e1, r1, F1, G1, rfl, rfl, g1, k1⟩ := h.struct_inv.cons_inv
  obtain ⟨rfl, rfl⟩ := g1.bool_inv
  obtain ⟨e2, r2, F2, G2, rfl, rfl, g2, k2⟩ := k1.cons_inv
  obtain ⟨a2_tds, c2_tds, a2_tks, c2_tks, a2_es, c2_es, rfl, n2⟩ := g2.Cl_inv
  obtain ⟨rfl, rfl⟩ := k2.nil_inv
  refine ⟨a2_tds, c2_tds, a2_tks, c2_tks, a2_es, c2_es, by simp, ?_⟩
  exact n2
theorem RdS.fTh {w : World} {dn : Bool} {ctk : Int} {ctv : Int} {ctds : List Int} {ctks : List Co} {ces : List Int} {actds : Option Addr} {cctds : Nat} {actks : Option Addr} {cctks : Nat} {aces : Option Addr} {cces : Nat} (h : RdS w (Th.d (Th.mk dn (Cl.mk (Co.mk ctk ctv ctds ctks) ces))) [.bool dn, .int .i64 ctk, .int .i64 ctv, .slice actds ctds.length cctds, .slice actks ctks.length cctks, .slice aces ces.length cces]) : (((-9223372036854775808 ≤ ctk ∧ ctk ≤ 9223372036854775807) ∧ (-9223372036854775808 ≤ ctv ∧ ctv ≤ 9223372036854775807) ∧ RdL w (In.ds ctds) (.slice actds ctds.length cctds) ∧ RdL w (Co.ds ctks) (.slice actks ctks.length cctks)) ∧ RdL w (In.ds ces) (.slice aces ces.length cces)) := by
  obtain ⟨F, h⟩ := h
  obtain ⟨actds', cctds', actks', cctks', aces', cces', e, hf⟩ := h.Th_inv
  simp only [List.cons.injEq, Value.slice.injEq, true_and, and_true] at e
  obtain ⟨⟨rfl, rfl⟩, ⟨rfl, rfl⟩, ⟨rfl, rfl⟩⟩ := e
  exact hf

/-- A slice of these: the value, and what each element's cells hold. -/
theorem RdL.eTh {w : World} {ts : List Th} {v : Value} (h : RdL w (Th.ds ts) v) : ∃ (a : Option Addr) (cap : Nat), v = .slice a ts.length cap ∧ ts.length ≤ cap ∧ cap ≤ 9223372036854775807 ∧
    (0 < ts.length → ∃ b o, a = some ⟨b, o, none⟩ ∧ b < w.heap.size ∧ ∀ (i : Nat) (dn : Bool) (ctk : Int) (ctv : Int) (ctds : List Int) (ctks : List Co) (ces : List Int), ts[i]? = some (Th.mk dn (Cl.mk (Co.mk ctk ctv ctds ctks) ces)) → ∃ (actds : Option Addr) (cctds : Nat) (actks : Option Addr) (cctks : Nat) (aces : Option Addr) (cces : Nat), 
      w.cell? ⟨b, o + i * 6, none⟩ = some (.bool dn) ∧ w.cell? ⟨b, o + i * 6 + 1, none⟩ = some (.int .i64 ctk) ∧ w.cell? ⟨b, o + i * 6 + 2, none⟩ = some (.int .i64 ctv) ∧ w.cell? ⟨b, o + i * 6 + 3, none⟩ = some (.slice actds ctds.length cctds) ∧ w.cell? ⟨b, o + i * 6 + 4, none⟩ = some (.slice actks ctks.length cctks) ∧ w.cell? ⟨b, o + i * 6 + 5, none⟩ = some (.slice aces ces.length cces) ∧ RdS w (Th.d (Th.mk dn (Cl.mk (Co.mk ctk ctv ctds ctks) ces))) [.bool dn, .int .i64 ctk, .int .i64 ctv, .slice actds ctds.length cctds, .slice actks ctks.length cctks, .slice aces ces.length cces]) := by
  obtain ⟨F, h⟩ := h
  obtain ⟨a, cap, h1, h2, h3, h4⟩ := h.list_inv
  rw [Th.ds_length] at h1 h2
  simp only [List.cons.injEq, and_true] at h1
  refine ⟨a, cap, h1, h2, h3, fun hp => ?_⟩
  rcases h4 with ⟨h4, _⟩ | ⟨b, o, xs, F', _, rfl, rfl, hb, hx, hr⟩
  · have := congrArg List.length h4; rw [Th.ds_length] at this; simp at this; simp [this] at hp
  · refine ⟨b, o, rfl, hb, fun i dn ctk ctv ctds ctks ces hi => ?_⟩
    obtain ⟨cs, Fi, k1, k2, _⟩ := hr.get (Th.ds_len ts) (i := i) (d := Th.d (Th.mk dn (Cl.mk (Co.mk ctk ctv ctds ctks) ces))) (by rw [Th.ds_get, hi]; rfl)
    obtain ⟨actds, cctds, actks, cctks, aces, cces, e, -⟩ := k2.Th_inv
    subst e
    refine ⟨actds, cctds, actks, cctks, aces, cces, ?_, ?_, ?_, ?_, ?_, ?_, ⟨Fi, k2⟩⟩
    · have := hx _ _ (k1 0 (.bool dn) rfl); simpa [Nat.add_assoc] using this
    · have := hx _ _ (k1 1 (.int .i64 ctk) rfl); simpa [Nat.add_assoc] using this
    · have := hx _ _ (k1 2 (.int .i64 ctv) rfl); simpa [Nat.add_assoc] using this
    · have := hx _ _ (k1 3 (.slice actds ctds.length cctds) rfl); simpa [Nat.add_assoc] using this
    · have := hx _ _ (k1 4 (.slice actks ctks.length cctks) rfl); simpa [Nat.add_assoc] using this
    · have := hx _ _ (k1 5 (.slice aces ces.length cces) rfl); simpa [Nat.add_assoc] using this

end Go.Proofs.Ytejdbmeoaekhcaa
/- was: DNe -/
namespace Go.Proofs.Ytejdbmeoaekhcaa
open Go.RowKit

inductive Ne where
  | mk (c : Cl) (ss : List Fr) (hs : List Th)
def Ne.d : Ne → D
  | .mk c ss hs => .struct [Cl.d c, .list (Fr.ds ss), .list (Th.ds hs)]
def Ne.ds : List Ne → List D
  | [] => []
  | t :: ts => Ne.d t :: Ne.ds ts

/-- Nodes and letters. -/
def Ne.bulk : Ne → Nat
  | .mk c ss hs => Cl.bulk c + Fr.bulks ss + Th.bulks hs
def Ne.bulks : List Ne → Nat
  | [] => 0
  | t :: ts => 1 + Ne.bulk t + Ne.bulks ts

theorem Ne.d_len (t : Ne) : (Ne.d t).len = 7 := by cases t; simp [Ne.d, D.len, D.lens, Cl.d_len]
theorem Ne.ds_length : ∀ ts : List Ne, (Ne.ds ts).length = ts.length
  | [] => rfl
  | t :: ts => by simp [Ne.ds, Ne.ds_length ts]
theorem Ne.ds_get : ∀ (ts : List Ne) (i : Nat), (Ne.ds ts)[i]? = (ts[i]?).map Ne.d
  | [], i => by simp [Ne.ds]
  | t :: ts, 0 => by simp [Ne.ds]
  | t :: ts, i + 1 => by simp [Ne.ds, Ne.ds_get ts i]
theorem Ne.ds_snoc : ∀ (ts : List Ne) (i : Nat) (t : Ne), ts[i]? = some t → Ne.ds (ts.take (i + 1)) = Ne.ds (ts.take i) ++ [Ne.d t]
  | [], i, t, h => by simp at h
  | u :: ts, 0, t, h => by simp at h; subst h; simp [Ne.ds]
  | u :: ts, i + 1, t, h => by have := Ne.ds_snoc ts i t (by simpa using h); simp [Ne.ds, this]
theorem Ne.ds_append : ∀ (ts us : List Ne), Ne.ds (ts ++ us) = Ne.ds ts ++ Ne.ds us
  | [], us => rfl
  | t :: ts, us => by simp [Ne.ds, Ne.ds_append ts us]
theorem Ne.ds_len : ∀ (ts : List Ne), ∀ d ∈ Ne.ds ts, d.len = 7
  | [], d, h => by simp [Ne.ds] at h
  | t :: ts, d, h => by
    simp only [Ne.ds, List.mem_cons] at h
    rcases h with rfl | h
    · exact Ne.d_len t
    · exact Ne.ds_len ts d h
theorem Ne.bulks_length : ∀ ts : List Ne, ts.length ≤ Ne.bulks ts
  | [] => by simp
  | t :: ts => by have := Ne.bulks_length ts; simp [Ne.bulks]; omega
theorem Ne.bulk_get : ∀ (ts : List Ne) (i : Nat) (t : Ne), ts[i]? = some t → Ne.bulk t < Ne.bulks ts
  | [], i, t, h => by simp at h
  | u :: ts, 0, t, h => by simp at h; subst h; simp [Ne.bulks]; omega
  | u :: ts, i + 1, t, h => by have := Ne.bulk_get ts i t (by simpa using h); simp [Ne.bulks]; omega
theorem Ne.bulks_take : ∀ (ts : List Ne) (i : Nat) (t : Ne), ts[i]? = some t → Ne.bulks (ts.take (i + 1)) = Ne.bulks (ts.take i) + 1 + Ne.bulk t
  | [], i, t, h => by simp at h
  | u :: ts, 0, t, h => by simp at h; subst h; simp [Ne.bulks]
  | u :: ts, i + 1, t, h => by have := Ne.bulks_take ts i t (by simpa using h); simp [Ne.bulks] at *; omega
theorem Ne.bulks_le : ∀ (ts : List Ne) (i : Nat), Ne.bulks (ts.take i) + (ts.length - i) ≤ Ne.bulks ts
  | [], i => by simp
  | u :: ts, 0 => by have := Ne.bulks_length ts; simp [Ne.bulks]; omega
  | u :: ts, i + 1 => by have := Ne.bulks_le ts i; simp [Ne.bulks]; omega
theorem Rd.Ne_inv {w : World} {ctk : Int} {ctv : Int} {ctds : List Int} {ctks : List Co} {ces : List Int} {ss : List Fr} {hs : List Th} {cs : List Value} {F : List Nat} (h : Rd w (Ne.d (Ne.mk (Cl.mk (Co.mk ctk ctv ctds ctks) ces) ss hs)) cs F) : ∃ (actds : Option Addr) (cctds : Nat) (actks : Option Addr) (cctks : Nat) (aces : Option Addr) (cces : Nat) (ass : Option Addr) (css : Nat) (ahs : Option Addr) (chs : Nat), cs = [.int .i64 ctk, .int .i64 ctv, .slice actds ctds.length cctds, .slice actks ctks.length cctks, .slice aces ces.length cces, .slice ass ss.length css, .slice ahs hs.length chs] ∧ ((((-9223372036854775808 ≤ ctk ∧ ctk ≤ 9223372036854775807) ∧ (-9223372036854775808 ≤ ctv ∧ ctv ≤ 9223372036854775807) ∧ RdL w (In.ds ctds) (.slice actds ctds.length cctds) ∧ RdL w (Co.ds ctks) (.slice actks ctks.length cctks)) ∧ RdL w (In.ds ces) (.slice aces ces.length cces)) ∧ RdL w (Fr.ds ss) (.slice ass ss.length css) ∧ RdL w (Th.ds hs) (.slice ahs hs.length chs)) := by
  obtain ⟨e1, r1, F1, G1, rfl, rfl, g1, k1⟩ := h.struct_inv.cons_inv
  obtain ⟨a1_tds, c1_tds, a1_tks, c1_tks, a1_es, c1_es, rfl, n1⟩ := g1.Cl_inv
  obtain ⟨e2, r2, F2, G2, rfl, rfl, g2, k2⟩ := k1.cons_inv
  obtain ⟨a2, c2, rfl, -⟩ := g2.list_inv
  rw [Fr.ds_length] at g2
  obtain ⟨e3, r3, F3, G3, rfl, rfl, g3, k3⟩ := k2.cons_inv
  obtain ⟨a3, c3, rfl, -⟩ := g3.list_inv
  rw [Th.ds_length] at g3
  obtain ⟨rfl, rfl⟩ := k3.nil_inv
  refine ⟨a1_tds, c1_tds, a1_tks, c1_tks, a1_es, c1_es, a2, c2, a3, c3, by simp [Fr.ds_length, Th.ds_length], ?_⟩
  exact ⟨n1, ⟨F2, g2⟩, ⟨F3, g3⟩⟩
theorem RdS.fNe {w : World} {ctk : Int} {ctv : Int} {ctds : List Int} {ctks : List Co} {ces : List Int} {ss : List Fr} {hs : List Th} {actds : Option Addr} {cctds : Nat} {actks : Option Addr} {cctks : Nat} {aces : Option Addr} {cces : Nat} {ass : Option Addr} {css : Nat} {ahs : Option Addr} {chs : Nat} (h : RdS w (Ne.d (Ne.mk (Cl.mk (Co.mk ctk ctv ctds ctks) ces) ss hs)) [.int .i64 ctk, .int .i64 ctv, .slice actds ctds.length cctds, .slice actks ctks.length cctks, .slice aces ces.length cces, .slice ass ss.length css, .slice ahs hs.length chs]) : (((-9223372036854775808 ≤ ctk ∧ ctk ≤ 9223372036854775807) ∧ (-9223372036854775808 ≤ ctv ∧ ctv ≤ 9223372036854775807) ∧ RdL w (In.ds ctds) (.slice actds ctds.length cctds) ∧ RdL w (Co.ds ctks) (.slice actks ctks.length cctks)) ∧ RdL w (In.ds ces) (.slice aces ces.length cces)) ∧ RdL w (Fr.ds ss) (.slice ass ss.length css) ∧ RdL w (Th.ds hs) (.slice ahs hs.length chs) := by
  obtain ⟨F, h⟩ := h
  obtain ⟨actds', cctds', actks', cctks', aces', cces', ass', css', ahs', chs', e, hf⟩ := h.Ne_inv
  simp only [List.cons.injEq, Value.slice.injEq, true_and, and_true] at e
  obtain ⟨⟨rfl, rfl⟩, ⟨rfl, rfl⟩, ⟨rfl, rfl⟩, ⟨rfl, rfl⟩, ⟨rfl, rfl⟩⟩ := e
  exact hf

/-- A slice of these: the value, and what each element's cells hold. -/
theorem RdL.eNe {w : World} {ts : List Ne} {v : Value} (h : RdL w (Ne.ds ts) v) : ∃ (a : Option Addr) (cap : Nat), v = .slice a ts.length cap ∧ ts.length ≤ cap ∧ cap ≤ 9223372036854775807 ∧
    (0 < ts.length → ∃ b o, a = some ⟨b, o, none⟩ ∧ b < w.heap.size ∧ ∀ (i : Nat) (ctk : Int) (ctv : Int) (ctds : List Int) (ctks : List Co) (ces : List Int) (ss : List Fr) (hs : List Th), ts[i]? = some (Ne.mk (Cl.mk (Co.mk ctk ctv ctds ctks) ces) ss hs) → ∃ (actds : Option Addr) (cctds : Nat) (actks : Option Addr) (cctks : Nat) (aces : Option Addr) (cces : Nat) (ass : Option Addr) (css : Nat) (ahs : Option Addr) (chs : Nat), 
      w.cell? ⟨b, o + i * 7, none⟩ = some (.int .i64 ctk) ∧ w.cell? ⟨b, o + i * 7 + 1, none⟩ = some (.int .i64 ctv) ∧ w.cell? ⟨b, o + i * 7 + 2, none⟩ = some (.slice actds ctds.length cctds) ∧ w.cell? ⟨b, o + i * 7 + 3, none⟩ = some (.slice actks ctks.length cctks) ∧ w.cell? ⟨b, o + i * 7 + 4, none⟩ = some (.slice aces ces.length cces) ∧ w.cell? ⟨b, o + i * 7 + 5, none⟩ = some (.slice ass ss.length css) ∧ w.cell? ⟨b, o + i * 7 + 6, none⟩ = some (.slice ahs hs.length chs) ∧ RdS w (Ne.d (Ne.mk (Cl.mk (Co.mk ctk ctv ctds ctks) ces) ss hs)) [.int .i64 ctk, .int .i64 ctv, .slice actds ctds.length cctds, .slice actks ctks.length cctks, .slice aces ces.length cces, .slice ass ss.length css, .slice ahs hs.length chs]) := by
  obtain ⟨F, h⟩ := h
  obtain ⟨a, cap, h1, h2, h3, h4⟩ := h.list_inv
  rw [Ne.ds_length] at h1 h2
  simp only [List.cons.injEq, and_true] at h1
  refine ⟨a, cap, h1, h2, h3, fun hp => ?_⟩
  rcases h4 with ⟨h4, _⟩ | ⟨b, o, xs, F', _, rfl, rfl, hb, hx, hr⟩
  · have := congrArg List.length h4; rw [Ne.ds_length] at this; simp at this; simp [this] at hp
  · refine ⟨b, o, rfl, hb, fun i ctk ctv ctds ctks ces ss hs hi => ?_⟩
    obtain ⟨cs, Fi, k1, k2, _⟩ := hr.get (Ne.ds_len ts) (i := i) (d := Ne.d (Ne.mk (Cl.mk (Co.mk ctk ctv ctds ctks) ces) ss hs)) (by rw [Ne.ds_get, hi]; rfl)
    obtain ⟨actds, cctds, actks, cctks, aces, cces, ass, css, ahs, chs, e, -⟩ := k2.Ne_inv
    subst e
    refine ⟨actds, cctds, actks, cctks, aces, cces, ass, css, ahs, chs, ?_, ?_, ?_, ?_, ?_, ?_, ?_, ⟨Fi, k2⟩⟩
    · have := hx _ _ (k1 0 (.int .i64 ctk) rfl); simpa [Nat.add_assoc] using this
    · have := hx _ _ (k1 1 (.int .i64 ctv) rfl); simpa [Nat.add_assoc] using this
    · have := hx _ _ (k1 2 (.slice actds ctds.length cctds) rfl); simpa [Nat.add_assoc] using this
    · have := hx _ _ (k1 3 (.slice actks ctks.length cctks) rfl); simpa [Nat.add_assoc] using this
    · have := hx _ _ (k1 4 (.slice aces ces.length cces) rfl); simpa [Nat.add_assoc] using this
    · have := hx _ _ (k1 5 (.slice ass ss.length css) rfl); simpa [Nat.add_assoc] using this
    · have := hx _ _ (k1 6 (.slice ahs hs.length chs) rfl); simpa [Nat.add_assoc] using this

end Go.Proofs.Ytejdbmeoaekhcaa
/- was: NdPlain -/
namespace Go.Proofs.Ytejdbmeoaekhcaa
open Go.RowKit

theorem all_no {α : Type} (p : α → Bool) : ∀ (l : List α) (j : Nat) (t : α), l[j]? = some t → p t = false → l.all p = false
  | [], j, t, h, _ => by simp at h
  | u :: l, 0, t, h, e => by simp at h; subst h; simp [e]
  | u :: l, j + 1, t, h, e => by rw [List.all_cons, all_no p l j t (by simpa using h) e]; simp
theorem all_yes {α : Type} (p : α → Bool) : ∀ (l : List α), (∀ (j : Nat) t, l[j]? = some t → p t = true) → l.all p = true
  | [], _ => rfl
  | u :: l, h => by rw [List.all_cons, h 0 u rfl, all_yes p l fun j t hj => h (j + 1) t (by simpa using hj)]; rfl
theorem any_not {α : Type} (p : α → Bool) : ∀ (l : List α), l.any (fun x => !p x) = !l.all p
  | [] => rfl
  | u :: l => by rw [List.any_cons, List.all_cons, any_not p l]; cases p u <;> rfl
def upTo (n : Int) (x : Int) : Bool := inR x 0 (n - 1)
def clOk (n h : Int) : Cl → Bool
  | .mk t es => Co.ok t && (Co.era t && (Co.refs t n && (Co.clo t es.length && (decide (es.length ≤ 256) && es.all (upTo h)))))
theorem clOk_mk (n h : Int) (t : Co) (es : List Int) : clOk n h (.mk t es) = (Co.ok t && (Co.era t && (Co.refs t n && (Co.clo t es.length && (decide (es.length ≤ 256) && es.all (upTo h)))))) := rfl
def kidIs (i : Nat) : Co → Bool
  | .mk k v _ _ => decide (k = 1) && decide (v = i)
def kidsVar : Nat → List Co → Bool
  | _, [] => true
  | i, t :: ts => kidIs i t && kidsVar (i + 1) ts
theorem kidsVar_no : ∀ (ts : List Co) (i j : Nat) (t : Co), ts[j]? = some t → kidIs (i + j) t = false → kidsVar i ts = false
  | [], i, j, t, h, _ => by simp at h
  | u :: ts, i, 0, t, h, e => by simp at h; subst h; rw [kidsVar, show kidIs i u = false from e]; rfl
  | u :: ts, i, j + 1, t, h, e => by rw [kidsVar, kidsVar_no ts (i + 1) j t (by simpa using h) (by rw [show i + 1 + j = i + (j + 1) by omega]; exact e)]; simp
theorem kidsVar_yes : ∀ (ts : List Co) (i : Nat), (∀ (j : Nat) t, ts[j]? = some t → kidIs (i + j) t = true) → kidsVar i ts = true
  | [], _, _ => rfl
  | u :: ts, i, h => by rw [kidsVar, show kidIs i u = true from h 0 u rfl, kidsVar_yes ts (i + 1) fun j t hj => by rw [show i + 1 + j = i + (j + 1) by omega]; exact h (j + 1) t (by simpa using hj)]; rfl
def clFields : Cl → Bool
  | .mk (.mk _ _ _ ks) es => decide (ks.length = es.length) && kidsVar 0 ks
def clVal : Cl → Bool
  | .mk (.mk k v ds ks) es => if k = 4 then true else if k = 2 then true else if k = 8 then clFields (.mk (.mk k v ds ks) es) else false
def clNone : Cl → Bool
  | .mk (.mk k v ds ks) es => decide (k = 0) && (decide (v = 0) && (decide (ds.length = 0) && (decide (ks.length = 0) && decide (es.length = 0))))
def frRest (n h : Int) (k v : Int) (ds : List Int) : Bool :=
  if k = 1 then inR v 0 (h - 1) && decide (ds.length = 0) else if k = 2 then inR v 0 (h - 1) && decide (ds.length = 0)
  else if k = 4 then inR v 1 6 && (decide (ds.length = 1) && inR (ds.headD 0) (-2147483648) 2147483647)
  else if k = 5 then decide (v = 0) && (inR ds.length 1 4 && ds.all (upTo n))
  else if k = 6 then decide (v = 0) && (decide (ds.length = 2) && ds.all (upTo n)) else false
def frOk (n h : Int) : Fr → Bool
  | .mk k v ds c => if k = 3 then inR v 1 6 && (decide (ds.length = 0) && clOk n h c) else clNone c && frRest n h k v ds
def thOk (n h : Int) : Th → Bool
  | .mk dn c => clOk n h c && (!dn || clVal c)
def bookEra (fs : List Co) : Bool := bookOk fs && fs.all Co.era
def needOk (fs : List Co) : Ne → Bool
  | .mk c ss hs => bookEra fs && (decide (hs.length ≤ 2000) && (decide (ss.length ≤ 400) && (clOk fs.length hs.length c && (ss.all (frOk fs.length hs.length) && hs.all (thOk fs.length hs.length)))))
def needDone : Ne → Bool
  | .mk c ss _ => decide (ss.length = 0) && clVal c
theorem defsOk_get (n : Int) : ∀ (ts : List Co) (j : Nat) (t : Co), defsOk n ts = true → ts[j]? = some t → Co.ok t = true
  | [], j, t, _, h => by simp at h
  | u :: ts, 0, t, e, h => by simp at h; subst h; simp only [defsOk, defOk, Bool.and_eq_true] at e; exact e.1.1.1
  | u :: ts, j + 1, t, e, h => by simp only [defsOk, Bool.and_eq_true] at e; exact defsOk_get n ts j t e.2 (by simpa using h)
theorem Co.ok_good' {t : Co} (h : Co.ok t = true) : Co.good t = true := by
  simp only [Co.ok, Bool.and_eq_true] at h
  first | exact h.1 | exact h.1.1 | exact h.2 | exact h.2.1
end Go.Proofs.Ytejdbmeoaekhcaa
/- was: CoEraseI -/
namespace Go.Proofs.Ytejdbmeoaekhcaa
open Go.ChangeShapes Go.WideShapes Go.ChangeAt Go.RowKit
set_option linter.unusedVariables false

theorem impl_isBox (k1 : Int) (v1 : Int) (ds1 : List Int) (ks1 : List Co) (ads1 : Option Addr) (cds1 : Nat) (aks1 : Option Addr) (cks1 : Nat) (w : World) : Calls Try.prog 90 #[.agg #[.int .i64 k1, .int .i64 v1, .slice ads1 ds1.length cds1, .slice aks1 ks1.length cks1]] w fun e w' => e = .returned (.bool (decide (k1 = 6) || decide (k1 = 7))) ∧ Below w.heap.size w w' := by
  have HB := hid ((Below.refl w.heap.size w).alloc (Nat.le_refl _) (.cells #[.int .i64 k1, .int .i64 v1, .slice ads1 ds1.length cds1, .slice aks1 ks1.length cks1] 36))
  by_cases h6 : k1 = 6
  case pos =>
    subst h6
    go_enter Try.func90, Try.ntmps90
    go_wp2_with fail
    go_ret
    exact ⟨rfl, HB.out⟩
  case neg =>
  by_cases h7 : k1 = 7
  case pos =>
    subst h7
    go_enter Try.func90, Try.ntmps90
    go_wp2_with fail
    go_ret
    exact ⟨rfl, HB.out⟩
  case neg =>
    have g6 : (k1 == 6) = false := by simp [h6]
    have g7 : (k1 == 7) = false := by simp [h7]
    have hf : (decide (k1 = 6) || decide (k1 = 7)) = false := by simp [h6, h7]
    rw [hf]
    clear h6 h7 hf
    go_enter Try.func90, Try.ntmps90
    go_wp2_with fail
    go_ret
    exact ⟨rfl, HB.out⟩

def AnyW (N : Nat) : Prop := ∀ (k1 : Int) (v1 : Int) (ds1 : List Int) (ks1 : List Co) (ads1 : Option Addr) (cds1 : Nat) (aks1 : Option Addr) (cks1 : Nat) (w : World), Co.bulk (Co.mk k1 v1 ds1 ks1) < N → RdS w (Co.d (Co.mk k1 v1 ds1 ks1)) [.int .i64 k1, .int .i64 v1, .slice ads1 ds1.length cds1, .slice aks1 ks1.length cks1] →
  Calls Try.prog 51 #[.agg #[.int .i64 k1, .int .i64 v1, .slice ads1 ds1.length cds1, .slice aks1 ks1.length cks1], .func (.func 90) #[] #[]] w fun e w' => e = .returned (.bool (!Co.era (Co.mk k1 v1 ds1 ks1))) ∧ Below w.heap.size w w'
theorem impl_any1 (N : Nat) (ih : AnyW N) (k1 : Int) (v1 : Int) (ds1 : List Int) (ks1 : List Co) (ads1 : Option Addr) (cds1 : Nat) (aks1 : Option Addr) (cks1 : Nat) (p : Addr) (w : World) (hN : Co.bulk (Co.mk k1 v1 ds1 ks1) < N) (hp : w.cell? p = some (.func (.func 90) #[] #[])) (hr : RdS w (Co.d (Co.mk k1 v1 ds1 ks1)) [.int .i64 k1, .int .i64 v1, .slice ads1 ds1.length cds1, .slice aks1 ks1.length cks1]) :
    Calls Try.prog 75 #[.agg #[.int .i64 k1, .int .i64 v1, .slice ads1 ds1.length cds1, .slice aks1 ks1.length cks1], .pointer (some p)] w fun e w' => e = .returned (.bool (!Co.era (Co.mk k1 v1 ds1 ks1))) ∧ Below w.heap.size w w' := by
  have hB := (Below.refl w.heap.size w).alloc (Nat.le_refl _) (.cells #[.int .i64 k1, .int .i64 v1, .slice ads1 ds1.length cds1, .slice aks1 ks1.length cks1] 36)
  have HC := hid (ih k1 v1 ds1 ks1 ads1 cds1 aks1 cks1 _ hN (hr.below hB))
  have hp' := (hB.cell (p := p) (World.block_lt_of_cell? _ _ hp)).trans hp
  have HB := hid hB
  clear hB hr ih hp
  go_enter Try.func75, Try.ntmps75
  go_wp2_with fail
  refine HC.out.mono ?_
  rintro e w1 ⟨rfl, hb⟩
  have HB1 := hid (HB.out.trans (hb.mono HB.out.size))
  clear hb
  go_wp2_with fail
  go_ret
  exact ⟨rfl, HB1.out⟩
set_option maxHeartbeats 1000000 in
theorem impl_anyIndex (N : Nat) (ih : AnyW N) (ks1 : List Co) (a : Option Addr) (c : Nat) (p : Addr) (w : World) (hN : Co.bulks ks1 ≤ N) (hp : w.cell? p = some (.func (.func 90) #[] #[])) (hr : RdL w (Co.ds ks1) (.slice a ks1.length c)) :
    Calls Try.prog 88 #[.slice a ks1.length c, .func (.func 75) #[] #[.pointer (some p)]] w fun e w' => ∃ r : Int, e = .returned (.int .i64 r) ∧ (decide (0 ≤ r) = !Co.eras ks1) ∧ Below w.heap.size w w' := by
  obtain ⟨_, _, e, h2, h3, h4⟩ := hr.eCo
  simp only [Value.slice.injEq, true_and] at e
  obtain ⟨rfl, rfl⟩ := e
  have H4 := hid h4
  have HP := hid hp
  have PL := hid (World.block_lt_of_cell? _ _ hp)
  have HC1 := hid (fun (kk : Int) (vv : Int) (dd : List Int) (qq : List Co) (ad : Option Addr) (cd : Nat) (aq : Option Addr) (cq : Nat) (W : World) => impl_any1 N ih kk vv dd qq ad cd aq cq p W)
  have HN := hid hN
  clear hr h4 ih hp hN
  go_enter Try.func88, Try.ntmps88
  go_wp2_with fail
  go_loopw [5, 8] (fun _ i wr => ∃ (j : Nat), j ≤ ks1.length ∧ i = .int .i64 j ∧ Hid (∀ (i : Nat) t, i < j → ks1[i]? = some t → Co.era t = true) ∧ Below w.heap.size w wr) (fun _ i _ => ks1.length - (intOf i).toNat)
  case atStart => exact ⟨0, by omega, rfl, fun i t hi => absurd hi (by omega), Below.refl _ _⟩
  case round =>
    obtain ⟨j, hj, rfl, HJ, hb⟩ := hrel
    by_cases hlt : j < ks1.length
    case pos =>
      obtain ⟨b, o, rfl, hbl, hall⟩ := H4.out (by omega)
      obtain ⟨t, ht⟩ : ∃ t, ks1[j]? = some t := ⟨_, List.getElem?_eq_getElem hlt⟩
      obtain ⟨k3, v3, ds3, ks3⟩ := t
      obtain ⟨ads3, cds3, aks3, cks3, q0, q1, q2, q3, hrk⟩ := hall j k3 v3 ds3 ks3 ht
      clear hall H4
      have d0 := (hb.cell (p := ⟨b, o + j * 4, none⟩) hbl).trans q0
      have d1 := (hb.cell (p := ⟨b, o + j * 4 + 1, none⟩) hbl).trans q1
      have d2 := (hb.cell (p := ⟨b, o + j * 4 + 2, none⟩) hbl).trans q2
      have d3 := (hb.cell (p := ⟨b, o + j * 4 + 3, none⟩) hbl).trans q3
      have hbg := Co.bulk_get ks1 j _ ht
      have hc := HC1.out k3 v3 ds3 ks3 ads3 cds3 aks3 cks3 wr (by have := HN.out; omega) ((hb.cell PL.out).trans HP.out) (hrk.below hb)
      have HT := hid ht
      by_cases hg : Co.era (.mk k3 v3 ds3 ks3) = true
      case neg =>
        replace hg := (Bool.not_eq_true _).mp hg
        rw [hg] at hc
        have HC := hid hc
        have HG := hid hg
        clear ht hrk q0 q1 q2 q3 hc hg
        go_wp2_with fail
        refine HC.out.mono ?_
        clear HC
        rintro e w1 ⟨rfl, hb1⟩
        have hbw := hb.trans (hb1.mono hb.size)
        clear hb1
        go_wp2_with fail
        go_ret
        exact ⟨j, rfl, by rw [Co.eras_no ks1 j _ HT.out HG.out]; simp, hbw⟩
      case pos =>
        rw [hg] at hc
        have HC := hid hc
        have HG := hid hg
        clear ht hrk q0 q1 q2 q3 hc hg
        go_wp2_with fail
        refine HC.out.mono ?_
        clear HC
        rintro e w1 ⟨rfl, hb1⟩
        have hbw := hb.trans (hb1.mono hb.size)
        clear hb1
        go_wp2_with fail
        go_roundw
        case rel => exact ⟨j + 1, by omega, by go_num, fun i t hi hti => (Nat.lt_succ_iff_lt_or_eq.1 hi).elim (fun hi => HJ.out i t hi hti) (fun he => by subst he; obtain rfl := Option.some.inj (hti.symm.trans HT.out); exact HG.out), hbw⟩
        case measure => simp [intOf]; omega
    case neg =>
      go_wp2_with fail
      go_ret
      exact ⟨-1, rfl, by rw [Co.eras_yes ks1 fun i t hti => HJ.out i t (by have := (List.getElem?_eq_some_iff.1 hti).1; omega) hti]; simp, hb⟩
theorem impl_anyCont (N : Nat) (ih : AnyW N) (ks1 : List Co) (a : Option Addr) (c : Nat) (p : Addr) (w : World) (hN : Co.bulks ks1 ≤ N) (hp : w.cell? p = some (.func (.func 90) #[] #[])) (hr : RdL w (Co.ds ks1) (.slice a ks1.length c)) :
    Calls Try.prog 70 #[.slice a ks1.length c, .func (.func 75) #[] #[.pointer (some p)]] w fun e w' => e = .returned (.bool (!Co.eras ks1)) ∧ Below w.heap.size w w' := by
  have HC := hid (impl_anyIndex N ih ks1 a c p w hN hp hr)
  clear hr hp ih
  go_enter Try.func70, Try.ntmps70
  go_wp2_with fail
  refine HC.out.mono ?_
  rintro e w1 ⟨r, rfl, hr, hb⟩
  have HR := hid hr
  clear hr
  go_wp2_with fail
  go_ret
  exact ⟨ret_bool HR.out, hb⟩
theorem impl_any_step (N : Nat) (ih : AnyW N) : AnyW (N + 1) := by
  intro k1 v1 ds1 ks1 ads1 cds1 aks1 cks1 w hN hr
  have hbk : Co.bulk (Co.mk k1 v1 ds1 ks1) = In.bulks ds1 + Co.bulks ks1 := rfl
  have HE := hid (show Co.era (Co.mk k1 v1 ds1 ks1) = (!(decide (k1 = 6) || decide (k1 = 7)) && Co.eras ks1) from rfl)
  have HX0 := hid (((Boxes.nil w).alloc #[.int .i64 k1, .int .i64 v1, .slice ads1 ds1.length cds1, .slice aks1 ks1.length cks1] 36 (0, 0)).alloc #[.func (.func 90) #[] #[]] 62 (0, 0))
  have hB : Below w.heap.size w ((w.alloc (.cells #[.int .i64 k1, .int .i64 v1, .slice ads1 ds1.length cds1, .slice aks1 ks1.length cks1] 36)).alloc (.cells #[.func (.func 90) #[] #[]] 62)) := ((Below.refl _ _).alloc (Nat.le_refl _) _).alloc (by simp) _
  have hc := fun W (hW : Below w.heap.size w W) hp => impl_anyCont N ih ks1 aks1 cks1 ⟨w.heap.size + 1, 0, none⟩ W (by omega) hp (hr.fCo.2.2.2.below hW)
  have hv := impl_isBox k1 v1 ds1 ks1 ads1 cds1 aks1 cks1 ((w.alloc (.cells #[.int .i64 k1, .int .i64 v1, .slice ads1 ds1.length cds1, .slice aks1 ks1.length cks1] 36)).alloc (.cells #[.func (.func 90) #[] #[]] 62))
  have HB := hid hB
  have HC := hid hc
  clear hc hr hB ih hbk hN
  by_cases hq : (decide (k1 = 6) || decide (k1 = 7)) = true
  case pos =>
    rw [hq] at hv
    have HV := hid hv
    have HQ := hid hq
    clear hv hq HC
    go_enter Try.func51, Try.ntmps51
    go_wp2_with fail
    refine HV.out.mono ?_
    rintro e w1 ⟨rfl, hb⟩
    have HB1 := hid (HB.out.trans (hb.mono HB.out.size))
    clear hb
    go_wp2_with fail
    go_ret
    exact ⟨ret_bool (by rw [HE.out, HQ.out]; rfl), HB1.out⟩
  case neg =>
    replace hq := (Bool.not_eq_true _).mp hq
    rw [hq] at hv
    have HV := hid hv
    have HQ := hid hq
    clear hv hq
    go_enter Try.func51, Try.ntmps51
    go_wp2_with fail
    refine HV.out.mono ?_
    rintro e w1 ⟨rfl, hb⟩
    have HB1 := hid (HB.out.trans (hb.mono HB.out.size))
    have HX1 := hid (HX0.out.below hb)
    have g3 := HX1.out.at 1 3 rfl rfl
    have gf := HX1.out.at 0 0 rfl rfl
    simp only [World.size_alloc] at gf
    have GF := hid gf
    clear hb gf
    go_wp2_with fail
    refine (HC.out _ HB1.out GF.out).mono ?_
    rintro e w2 ⟨rfl, hb⟩
    have HB2 := hid (HB1.out.trans (hb.mono HB1.out.size))
    clear hb
    go_wp2_with fail
    go_ret
    exact ⟨ret_bool (by rw [HE.out, HQ.out]; simp), HB2.out⟩
theorem impl_any_all : ∀ N, AnyW N
  | 0 => fun _ _ _ _ _ _ _ _ _  h => absurd h (by omega)
  | N + 1 => impl_any_step N (impl_any_all N)

theorem impl_IsErased (k1 : Int) (v1 : Int) (ds1 : List Int) (ks1 : List Co) (ads1 : Option Addr) (cds1 : Nat) (aks1 : Option Addr) (cks1 : Nat) (w : World) (hM : Co.bulk (Co.mk k1 v1 ds1 ks1) ≤ 1048576) (hr : RdS w (Co.d (Co.mk k1 v1 ds1 ks1)) [.int .i64 k1, .int .i64 v1, .slice ads1 ds1.length cds1, .slice aks1 ks1.length cks1]) :
    Calls Try.prog 72 #[.agg #[.int .i64 k1, .int .i64 v1, .slice ads1 ds1.length cds1, .slice aks1 ks1.length cks1]] w fun e w' => e = .returned (.bool (Co.ok (Co.mk k1 v1 ds1 ks1) && Co.era (Co.mk k1 v1 ds1 ks1))) ∧ Below w.heap.size w w' := by
  have HX0 := hid ((Boxes.nil w).alloc #[.int .i64 k1, .int .i64 v1, .slice ads1 ds1.length cds1, .slice aks1 ks1.length cks1] 36 (0, 0))
  have hB := (Below.refl w.heap.size w).alloc (Nat.le_refl _) (.cells #[.int .i64 k1, .int .i64 v1, .slice ads1 ds1.length cds1, .slice aks1 ks1.length cks1] 36)
  have hv := impl_ValidCore k1 v1 ds1 ks1 ads1 cds1 aks1 cks1 _ hM (hr.below hB)
  have hc := fun W (hW : Below w.heap.size w W) => impl_any_all (Co.bulk (Co.mk k1 v1 ds1 ks1) + 1) k1 v1 ds1 ks1 ads1 cds1 aks1 cks1 W (by omega) (hr.below hW)
  have HB := hid hB
  by_cases hok : Co.ok (Co.mk k1 v1 ds1 ks1) = true
  case neg =>
    replace hok := (Bool.not_eq_true _).mp hok
    rw [hok] at hv ⊢
    have HV := hid hv
    clear hr hB hv hc hok HX0
    go_enter Try.func72, Try.ntmps72
    go_wp2_with fail
    refine HV.out.mono ?_
    rintro e w1 ⟨rfl, hb⟩
    have HB1 := hid (HB.out.trans (hb.mono HB.out.size))
    clear hb
    go_wp2_with fail
    go_ret
    exact ⟨rfl, HB1.out⟩
  case pos =>
    rw [hok] at hv ⊢
    have HV := hid hv
    have HC := hid hc
    clear hr hB hv hc hok
    go_enter Try.func72, Try.ntmps72
    go_wp2_with fail
    refine HV.out.mono ?_
    rintro e w1 ⟨rfl, hb⟩
    have HB1 := hid (HB.out.trans (hb.mono HB.out.size))
    have HX1 := hid (HX0.out.below hb)
    have g0 := HX1.out.at 0 0 rfl rfl
    have g1 := HX1.out.at 0 1 rfl rfl
    have g2 := HX1.out.at 0 2 rfl rfl
    have g3 := HX1.out.at 0 3 rfl rfl
    clear hb
    go_wp2_with fail
    refine (HC.out _ HB1.out).mono ?_
    rintro e w2 ⟨rfl, hb⟩
    have HB2 := hid (HB1.out.trans (hb.mono HB1.out.size))
    clear hb
    go_wp2_with fail
    go_ret
    exact ⟨ret_bool (by simp), HB2.out⟩
end Go.Proofs.Ytejdbmeoaekhcaa
/- was: AnyIn -/
namespace Go.Proofs.Ytejdbmeoaekhcaa
open Go.ChangeShapes Go.WideShapes Go.ChangeAt Go.RowKit
set_option linter.unusedVariables false

set_option maxRecDepth 100000 in
set_option maxHeartbeats 1000000 in
theorem indexFunc_In_1 (F : FuncId) (eF : ∀ args (w : World), (callFunc F args).run Try.prog w = .ok (.enter F args) w) (q0 : Value) (p : Int → Bool) (Good : World → Prop) (hk : ∀ w w', Below w.heap.size w w' → Good w → Good w') (ts : List Int) (a : Option Addr) (c : Nat) (w : World) (hg : Good w) (hr : RdL w (In.ds ts) (.slice a ts.length c))
    (hc : ∀ (x : Int) (j : Nat) (W : World), ts[j]? = some (x) → Good W → (-9223372036854775808 ≤ x ∧ x ≤ 9223372036854775807) → Calls Try.prog F #[.int .i64 x, q0] W fun e w' => e = .returned (.bool (p (x))) ∧ Below W.heap.size W w') :
    Calls Try.prog 102 #[.slice a ts.length c, .func (.func F) #[] #[q0]] w fun e w' => e = .returned (.int .i64 (fstAt p ts)) ∧ Below w.heap.size w w' := by
  obtain ⟨_, _, e, h2, h3, h4⟩ := hr.eIn
  simp only [Value.slice.injEq, true_and] at e
  obtain ⟨rfl, rfl⟩ := e
  have H4 := hid h4
  have HC0 := hid hc
  have HK := hid hk
  have HG := hid hg
  clear hr h4 hc hk hg
  go_enter Try.func102, Try.ntmps102
  go_wp2_with fail
  go_loopw [5, 8] (fun _ i wr => ∃ (j : Nat), j ≤ ts.length ∧ i = .int .i64 j ∧ Hid (∀ (i : Nat) t, i < j → ts[i]? = some t → p t = false) ∧ Below w.heap.size w wr) (fun _ i _ => ts.length - (intOf i).toNat)
  case atStart => exact ⟨0, by omega, rfl, fun i t hi => absurd hi (by omega), Below.refl _ _⟩
  case round =>
    obtain ⟨j, hj, rfl, HJ, hb⟩ := hrel
    by_cases hlt : j < ts.length
    case pos =>
      obtain ⟨b, o, rfl, hbl, hall⟩ := H4.out (by omega)
      obtain ⟨t, ht⟩ : ∃ t, ts[j]? = some t := ⟨_, List.getElem?_eq_getElem hlt⟩
      obtain ⟨q0, hfc⟩ := hall j t ht
      clear hall H4
      have d0 := (hb.cell (p := ⟨b, o + j, none⟩) hbl).trans q0
      have hcc := fun hG => HC0.out t j wr ht hG hfc
      have HT := hid ht
      have HGW := hid (HK.out _ _ hb HG.out)
      by_cases hq : p (t) = true
      case pos =>
        rw [hq] at hcc
        have HC := hid hcc
        have HQ := hid hq
        clear ht q0 hcc hq HC0
        go_wp2_with fail
        refine (HC.out HGW.out).mono ?_
        clear HC
        rintro e w1 ⟨rfl, hb1⟩
        have hbw := hb.trans (hb1.mono hb.size)
        clear hb1
        go_wp2_with fail
        go_ret
        exact ⟨ret_int (fstAt_yes p ts j _ HT.out HQ.out HJ.out).symm, hbw⟩
      case neg =>
        replace hq := (Bool.not_eq_true _).mp hq
        rw [hq] at hcc
        have HC := hid hcc
        have HQ := hid hq
        clear ht q0 hcc hq HC0
        go_wp2_with fail
        refine (HC.out HGW.out).mono ?_
        clear HC
        rintro e w1 ⟨rfl, hb1⟩
        have hbw := hb.trans (hb1.mono hb.size)
        clear hb1
        go_wp2_with fail
        go_roundw
        case rel => exact ⟨j + 1, by omega, by go_num, fun i t hi hti => (Nat.lt_succ_iff_lt_or_eq.1 hi).elim (fun hi => HJ.out i t hi hti) (fun he => by subst he; obtain rfl := Option.some.inj (hti.symm.trans HT.out); exact HQ.out), hbw⟩
        case measure => simp [intOf]; omega
    case neg =>
      go_wp2_with fail
      go_ret
      exact ⟨ret_int (fstAt_no p ts fun i t hti => HJ.out i t (by have := (List.getElem?_eq_some_iff.1 hti).1; omega) hti).symm, hb⟩
theorem contains_In_1 (F : FuncId) (eF : ∀ args (w : World), (callFunc F args).run Try.prog w = .ok (.enter F args) w) (q0 : Value) (p : Int → Bool) (Good : World → Prop) (hk : ∀ w w', Below w.heap.size w w' → Good w → Good w') (ts : List Int) (a : Option Addr) (c : Nat) (w : World) (hg : Good w) (hr : RdL w (In.ds ts) (.slice a ts.length c))
    (hc : ∀ (x : Int) (j : Nat) (W : World), ts[j]? = some (x) → Good W → (-9223372036854775808 ≤ x ∧ x ≤ 9223372036854775807) → Calls Try.prog F #[.int .i64 x, q0] W fun e w' => e = .returned (.bool (p (x))) ∧ Below W.heap.size W w') :
    Calls Try.prog 93 #[.slice a ts.length c, .func (.func F) #[] #[q0]] w fun e w' => e = .returned (.bool (ts.any p)) ∧ Below w.heap.size w w' := by
  have HC := hid (indexFunc_In_1 F eF q0 p Good hk ts a c w hg hr hc)
  have HR := hid (fstAt_any p ts)
  clear hr hc hk hg eF
  generalize fstAt p ts = r at HC HR
  generalize ts.any p = bb at HR ⊢
  go_enter Try.func93, Try.ntmps93
  go_wp2_with fail
  refine HC.out.mono ?_
  rintro e w1 ⟨rfl, hb⟩
  go_wp2_with fail
  go_ret
  exact ⟨ret_bool HR.out, hb⟩

end Go.Proofs.Ytejdbmeoaekhcaa
/- was: BkValidI -/
namespace Go.Proofs.Ytejdbmeoaekhcaa
open Go.ChangeShapes Go.WideShapes Go.ChangeAt Go.RowKit
set_option linter.unusedVariables false

def geB (n x : Int) : Bool := decide (n ≤ x)
def badRef (n : Int) : Co → Bool
  | .mk k v ds _ => (decide (k = 11) && decide (n ≤ v)) || ds.any (geB n)
theorem allLt_any (n : Int) : ∀ ds : List Int, ds.any (geB n) = !allLt ds n
  | [] => rfl
  | x :: l => by rw [List.any_cons, allLt_any n l, allLt, geB]; simp
mutual
theorem Co.anyN_refs (n : Int) : ∀ t : Co, Co.anyN (badRef n) t = !Co.refs t n
  | .mk k v ds ks => by rw [Co.anyN, Co.anyNs_refs n ks, badRef, allLt_any, Co.refs]; cases (decide (k = 11) && decide (n ≤ v)) <;> cases allLt ds n <;> cases Co.refss ks n <;> rfl
theorem Co.anyNs_refs (n : Int) : ∀ ts : List Co, Co.anyNs (badRef n) ts = !Co.refss ts n
  | [] => rfl
  | t :: ts => by rw [Co.anyNs, Co.anyN_refs n t, Co.anyNs_refs n ts, Co.refss]; cases Co.refs t n <;> cases Co.refss ts n <;> rfl
end

theorem impl_ge (x n : Int) (q : Addr) (w : World) (hq : w.cell? q = some (.int .i64 n)) : Calls Try.prog 94 #[.int .i64 x, .pointer (some q)] w fun e w' => e = .returned (.bool (geB n x)) ∧ Below w.heap.size w w' := by
  by_cases h : n ≤ x
  case pos =>
    have hb : decide (n ≤ x) = true := by simp [h]
    have HF := hid (show geB n x = true from hb)
    clear h
    go_enter Try.func94, Try.ntmps94
    go_wp2_with fail
    go_ret
    exact ⟨ret_bool HF.out.symm, Below.refl _ _⟩
  case neg =>
    have hb : decide (n ≤ x) = false := by simp; omega
    have HF := hid (show geB n x = false from hb)
    clear h
    go_enter Try.func94, Try.ntmps94
    go_wp2_with fail
    go_ret
    exact ⟨ret_bool HF.out.symm, Below.refl _ _⟩
theorem impl_badRef (n : Int) (q : Addr) (k1 : Int) (v1 : Int) (ds1 : List Int) (ks1 : List Co) (ads1 : Option Addr) (cds1 : Nat) (aks1 : Option Addr) (cks1 : Nat) (w : World) (hq : w.cell? q = some (.int .i64 n)) (hr : RdS w (Co.d (Co.mk k1 v1 ds1 ks1)) [.int .i64 k1, .int .i64 v1, .slice ads1 ds1.length cds1, .slice aks1 ks1.length cks1]) :
    Calls Try.prog 92 #[.agg #[.int .i64 k1, .int .i64 v1, .slice ads1 ds1.length cds1, .slice aks1 ks1.length cks1], .pointer (some q)] w fun e w' => e = .returned (.bool (badRef n (Co.mk k1 v1 ds1 ks1))) ∧ Below w.heap.size w w' := by
  have HE := hid (show badRef n (Co.mk k1 v1 ds1 ks1) = ((decide (k1 = 11) && decide (n ≤ v1)) || ds1.any (geB n)) from rfl)
  have hB := (Below.refl w.heap.size w).alloc (Nat.le_refl _) (.cells #[.int .i64 k1, .int .i64 v1, .slice ads1 ds1.length cds1, .slice aks1 ks1.length cks1] 36)
  have hq' := (hB.cell (p := q) (World.block_lt_of_cell? _ _ hq)).trans hq
  have hc := contains_In_1 94 Try.call94 (.pointer (some q)) (geB n) (fun W => W.cell? q = some (.int .i64 n)) (fun a b hab h => (hab.cell (p := q) (World.block_lt_of_cell? _ _ h)).trans h) ds1 ads1 cds1 _ hq' (hr.fCo.2.2.1.below hB)
    (fun x j W _ hW _ => impl_ge x n q W hW)
  have HB := hid hB
  have HC := hid hc
  clear hc hr hB hq
  by_cases hA : k1 = 11 ∧ n ≤ v1
  case pos =>
    obtain ⟨rfl, hv⟩ := hA
    have hvb : decide (n ≤ v1) = true := by simp [hv]
    have HF := hid (show badRef n (Co.mk 11 v1 ds1 ks1) = true by rw [HE.out]; simp [hv])
    clear hv HC HE
    go_enter Try.func92, Try.ntmps92
    go_wp2_with fail
    go_ret
    exact ⟨ret_bool HF.out.symm, HB.out⟩
  case neg =>
    have HF := hid (show badRef n (Co.mk k1 v1 ds1 ks1) = ds1.any (geB n) by
      rw [HE.out]
      have : (decide (k1 = 11) && decide (n ≤ v1)) = false := by simpa using hA
      rw [this]; rfl)
    have hcase : ((k1 == 11) = true ∧ decide (n ≤ v1) = false) ∨ (k1 == 11) = false := by
      by_cases h1 : k1 = 11
      · left; exact ⟨by simp [h1], by simp; have : ¬ n ≤ v1 := fun c => hA ⟨h1, c⟩; omega⟩
      · right; simp [h1]
    clear hA HE
    rcases hcase with ⟨g1, gv⟩ | g1
    all_goals
      go_enter Try.func92, Try.ntmps92
      go_wp2_with fail
      refine HC.out.mono ?_
      rintro e w1 ⟨rfl, hb⟩
      have HB1 := hid (HB.out.trans (hb.mono HB.out.size))
      clear hb
      go_wp2_with fail
      go_ret
      exact ⟨ret_bool HF.out.symm, HB1.out⟩
theorem impl_namesOnly (k1 : Int) (v1 : Int) (ds1 : List Int) (ks1 : List Co) (ads1 : Option Addr) (cds1 : Nat) (aks1 : Option Addr) (cks1 : Nat) (n : Int) (w : World) (hr : RdS w (Co.d (Co.mk k1 v1 ds1 ks1)) [.int .i64 k1, .int .i64 v1, .slice ads1 ds1.length cds1, .slice aks1 ks1.length cks1]) :
    Calls Try.prog 74 #[.agg #[.int .i64 k1, .int .i64 v1, .slice ads1 ds1.length cds1, .slice aks1 ks1.length cks1], .int .i64 n] w fun e w' => e = .returned (.bool (Co.refs (Co.mk k1 v1 ds1 ks1) n)) ∧ Below w.heap.size w w' := by
  have HX0 := hid (((Boxes.nil w).alloc #[.int .i64 k1, .int .i64 v1, .slice ads1 ds1.length cds1, .slice aks1 ks1.length cks1] 36 (0, 0)).alloc #[.int .i64 n] 3 (0, 0))
  have hB : Below w.heap.size w ((w.alloc (.cells #[.int .i64 k1, .int .i64 v1, .slice ads1 ds1.length cds1, .slice aks1 ks1.length cks1] 36)).alloc (.cells #[.int .i64 n] 3)) := ((Below.refl _ _).alloc (Nat.le_refl _) _).alloc (by simp) _
  have g0 := HX0.out.at 0 0 rfl rfl
  simp only [World.size_alloc] at g0
  have hc := any1_all 92 Try.call92 (.pointer (some ⟨w.heap.size + 1, 0, none⟩)) (badRef n) (fun W => W.cell? ⟨w.heap.size + 1, 0, none⟩ = some (.int .i64 n)) (fun a b hab h => (hab.cell (p := ⟨w.heap.size + 1, 0, none⟩) (World.block_lt_of_cell? _ _ h)).trans h) (Co.bulk (Co.mk k1 v1 ds1 ks1) + 1)
    (fun k1 v1 ds1 ks1 ads1 cds1 aks1 cks1 W _ hW hrw => impl_badRef n _ k1 v1 ds1 ks1 ads1 cds1 aks1 cks1 W hW hrw) (Co.bulk (Co.mk k1 v1 ds1 ks1) + 1) (Nat.le_refl _) k1 v1 ds1 ks1 ads1 cds1 aks1 cks1 _ (by omega) g0 (hr.below hB)
  rw [Co.anyN_refs] at hc
  have HC := hid hc
  have HB := hid hB
  clear hc hr hB HX0 g0
  go_enter Try.func74, Try.ntmps74
  go_wp2_with fail
  refine HC.out.mono ?_
  rintro e w1 ⟨rfl, hb⟩
  have HB1 := hid (HB.out.trans (hb.mono HB.out.size))
  clear hb
  go_wp2_with fail
  go_ret
  exact ⟨ret_bool (by simp), HB1.out⟩

def badDef (n : Int) (t : Co) : Bool := !defOk n t
theorem defsOk_any (n : Int) : ∀ ts : List Co, ts.any (badDef n) = !defsOk n ts
  | [] => rfl
  | t :: ts => by rw [List.any_cons, defsOk_any n ts, defsOk, badDef]; cases defOk n t <;> rfl
theorem impl_badDef (fs1 : List Co) (afs1 : Option Addr) (cfs1 : Nat) (hfl : fs1.length ≤ 1048576) (q : Addr) (k1 : Int) (v1 : Int) (ds1 : List Int) (ks1 : List Co) (ads1 : Option Addr) (cds1 : Nat) (aks1 : Option Addr) (cks1 : Nat) (w : World) (hM : Co.bulk (Co.mk k1 v1 ds1 ks1) ≤ 1048576) (hq : w.cell? q = some (.slice afs1 fs1.length cfs1)) (hr : RdS w (Co.d (Co.mk k1 v1 ds1 ks1)) [.int .i64 k1, .int .i64 v1, .slice ads1 ds1.length cds1, .slice aks1 ks1.length cks1]) :
    Calls Try.prog 87 #[.agg #[.int .i64 k1, .int .i64 v1, .slice ads1 ds1.length cds1, .slice aks1 ks1.length cks1], .pointer (some q)] w fun e w' => e = .returned (.bool (badDef fs1.length (Co.mk k1 v1 ds1 ks1))) ∧ Below w.heap.size w w' := by
  have HE := hid (show badDef fs1.length (Co.mk k1 v1 ds1 ks1) = !((Co.ok (Co.mk k1 v1 ds1 ks1) && Co.clo (Co.mk k1 v1 ds1 ks1) 0) && Co.refs (Co.mk k1 v1 ds1 ks1) fs1.length) from rfl)
  have HX0 := hid ((Boxes.nil w).alloc #[.int .i64 k1, .int .i64 v1, .slice ads1 ds1.length cds1, .slice aks1 ks1.length cks1] 36 (0, 0))
  have hB := (Below.refl w.heap.size w).alloc (Nat.le_refl _) (.cells #[.int .i64 k1, .int .i64 v1, .slice ads1 ds1.length cds1, .slice aks1 ks1.length cks1] 36)
  have Q0 := hid ((hB.cell (p := q) (World.block_lt_of_cell? _ _ hq)).trans hq)
  have hv := impl_IsClosed k1 v1 ds1 ks1 ads1 cds1 aks1 cks1 _ hM (hr.below hB)
  have hc := fun W (hW : Below w.heap.size w W) => impl_namesOnly k1 v1 ds1 ks1 ads1 cds1 aks1 cks1 fs1.length W (hr.below hW)
  have HB := hid hB
  have HR := hid hr
  clear hr hB hq hM
  by_cases hk : (Co.ok (Co.mk k1 v1 ds1 ks1) && Co.clo (Co.mk k1 v1 ds1 ks1) 0) = true
  case neg =>
    replace hk := (Bool.not_eq_true _).mp hk
    rw [hk] at hv
    have HF := hid (show badDef fs1.length (Co.mk k1 v1 ds1 ks1) = true by rw [HE.out, hk]; rfl)
    have HV := hid hv
    clear hv hc hk
    go_enter Try.func87, Try.ntmps87
    go_wp2_with fail
    refine HV.out.mono ?_
    rintro e w1 ⟨rfl, hb⟩
    have HB1 := hid (HB.out.trans (hb.mono HB.out.size))
    clear hb
    go_wp2_with fail
    go_ret
    exact ⟨ret_bool HF.out.symm, HB1.out⟩
  case pos =>
    rw [hk] at hv
    have HF := hid (show badDef fs1.length (Co.mk k1 v1 ds1 ks1) = !Co.refs (Co.mk k1 v1 ds1 ks1) fs1.length by rw [HE.out, hk]; rfl)
    have HV := hid hv
    have HC := hid hc
    clear hv hc hk
    go_enter Try.func87, Try.ntmps87
    go_wp2_with fail
    refine HV.out.mono ?_
    rintro e w1 ⟨rfl, hb⟩
    have HB1 := hid (HB.out.trans (hb.mono HB.out.size))
    have HX1 := hid (HX0.out.below hb)
    have q1 := (hb.cell (p := q) (World.block_lt_of_cell? _ _ Q0.out)).trans Q0.out
    have g0 := HX1.out.at 0 0 rfl rfl
    have g1 := HX1.out.at 0 1 rfl rfl
    have g2 := HX1.out.at 0 2 rfl rfl
    have g3 := HX1.out.at 0 3 rfl rfl
    clear hb
    go_wp2_with fail
    refine (HC.out _ HB1.out).mono ?_
    rintro e w2 ⟨rfl, hb⟩
    have HB2 := hid (HB1.out.trans (hb.mono HB1.out.size))
    clear hb
    go_wp2_with fail
    go_ret
    exact ⟨ret_bool HF.out.symm, HB2.out⟩
theorem impl_ValidBook (fs1 : List Co) (afs1 : Option Addr) (cfs1 : Nat) (w : World) (hM : Bk.bulk (.mk fs1) ≤ 1048576) (hr : RdS w (Bk.d (.mk fs1)) [.slice afs1 fs1.length cfs1]) :
    Calls Try.prog 69 #[.agg #[.slice afs1 fs1.length cfs1]] w fun e w' => e = .returned (.bool (bookOk fs1)) ∧ Below w.heap.size w w' := by
  have hM' : Co.bulks fs1 ≤ 1048576 := hM
  have hlen := Co.bulks_length fs1
  have HX0 := hid ((Boxes.nil w).alloc #[.slice afs1 fs1.length cfs1] 33 (0, 0))
  have hB := (Below.refl w.heap.size w).alloc (Nat.le_refl _) (.cells #[.slice afs1 fs1.length cfs1] 33)
  have g0 := HX0.out.at 0 0 rfl rfl
  have hc := contains_Co_1 87 Try.call87 (.pointer (some ⟨w.heap.size, 0, none⟩)) (badDef fs1.length) (fun W => W.cell? ⟨w.heap.size, 0, none⟩ = some (.slice afs1 fs1.length cfs1)) (fun a b hab h => (hab.cell (p := ⟨w.heap.size, 0, none⟩) (World.block_lt_of_cell? _ _ h)).trans h) fs1 afs1 cfs1 _ g0 (hr.fBk.below hB)
    (fun k1 v1 ds1 ks1 ads1 cds1 aks1 cks1 j W hj hW hrw => impl_badDef fs1 afs1 cfs1 (by omega) _ k1 v1 ds1 ks1 ads1 cds1 aks1 cks1 W (by have := Co.bulk_get fs1 j _ hj; omega) hW hrw)
  rw [defsOk_any] at hc
  have HC := hid hc
  have HB := hid hB
  clear hc hr hB HX0 g0 hM hM'
  by_cases h1 : fs1.length < 1
  case pos =>
    have hb1 : decide ((fs1.length : Int) < 1) = true := by simp <;> omega
    have HF := hid (show bookOk fs1 = false by rw [bookOk, inR_f (by omega)]; rfl)
    clear h1 HC
    go_enter Try.func69, Try.ntmps69
    go_wp2_with fail
    go_ret
    exact ⟨ret_bool HF.out.symm, HB.out⟩
  case neg =>
    have hb1 : decide ((fs1.length : Int) < 1) = false := by simp; omega
    by_cases h2 : 24 < fs1.length
    case pos =>
      have hb2 : decide ((24 : Int) < fs1.length) = true := by simp; omega
      have HF := hid (show bookOk fs1 = false by rw [bookOk, inR_f (by omega)]; rfl)
      clear h1 h2 HC
      go_enter Try.func69, Try.ntmps69
      go_wp2_with fail
      go_ret
      exact ⟨ret_bool HF.out.symm, HB.out⟩
    case neg =>
      have hb2 : decide ((24 : Int) < fs1.length) = false := by simp; omega
      have HF := hid (show bookOk fs1 = defsOk fs1.length fs1 by rw [bookOk, inR_t (by omega) (by omega)]; rfl)
      clear h1 h2
      go_enter Try.func69, Try.ntmps69
      go_wp2_with fail
      refine HC.out.mono ?_
      rintro e w1 ⟨rfl, hb⟩
      have HB1 := hid (HB.out.trans (hb.mono HB.out.size))
      clear hb
      go_wp2_with fail
      go_ret
      exact ⟨ret_bool (by rw [HF.out]), HB1.out⟩
end Go.Proofs.Ytejdbmeoaekhcaa
/- was: EraB -/
namespace Go.Proofs.Ytejdbmeoaekhcaa
open Go.ChangeShapes Go.WideShapes Go.ChangeAt Go.RowKit Go.BigFrame
open Go.Sort (grow)
set_option linter.unusedVariables false

def badEra (t : Co) : Bool := !(Co.ok t && Co.era t)
theorem impl_badEra (k1 : Int) (v1 : Int) (ds1 : List Int) (ks1 : List Co) (ads1 : Option Addr) (cds1 : Nat) (aks1 : Option Addr) (cks1 : Nat) (w : World) (hM : Co.bulk (Co.mk k1 v1 ds1 ks1) ≤ 1048576) (hr : RdS w (Co.d (Co.mk k1 v1 ds1 ks1)) [.int .i64 k1, .int .i64 v1, .slice ads1 ds1.length cds1, .slice aks1 ks1.length cks1]) :
    Calls Try.prog 71 #[.agg #[.int .i64 k1, .int .i64 v1, .slice ads1 ds1.length cds1, .slice aks1 ks1.length cks1]] w fun e w' => e = .returned (.bool (badEra (Co.mk k1 v1 ds1 ks1))) ∧ Below w.heap.size w w' := by
  have hB := (Below.refl w.heap.size w).alloc (Nat.le_refl _) (.cells #[.int .i64 k1, .int .i64 v1, .slice ads1 ds1.length cds1, .slice aks1 ks1.length cks1] 36)
  have hc := impl_IsErased k1 v1 ds1 ks1 ads1 cds1 aks1 cks1 (w.alloc (.cells #[.int .i64 k1, .int .i64 v1, .slice ads1 ds1.length cds1, .slice aks1 ks1.length cks1] 36)) hM (hr.below hB)
  have HE := hid (show badEra (Co.mk k1 v1 ds1 ks1) = !(Co.ok (Co.mk k1 v1 ds1 ks1) && Co.era (Co.mk k1 v1 ds1 ks1)) from rfl)
  generalize (Co.ok (Co.mk k1 v1 ds1 ks1) && Co.era (Co.mk k1 v1 ds1 ks1)) = r at hc HE
  have HC := hid hc
  have HB := hid hB
  clear hc hr hB hM
  go_enter Try.func71, Try.ntmps71
  go_wp2_with fail
  refine HC.out.mono ?_
  rintro e w1 ⟨rfl, hb⟩
  have HB1 := hid (HB.out.trans (hb.mono HB.out.size))
  clear hb
  go_wp2_with fail
  go_ret
  exact ⟨ret_bool HE.out.symm, HB1.out⟩
theorem all_era (n : Int) : ∀ ts : List Co, defsOk n ts = true → ts.any badEra = !ts.all Co.era
  | [], _ => rfl
  | t :: ts, h => by
    simp only [defsOk, defOk, Bool.and_eq_true] at h
    rw [List.any_cons, List.all_cons, all_era n ts h.2, badEra, h.1.1.1]
    cases Co.era t <;> rfl
theorem impl_isErasedBook (fs1 : List Co) (afs1 : Option Addr) (cfs1 : Nat) (w : World) (hM : Co.bulks fs1 ≤ 1048576) (hr : RdS w (Bk.d (.mk fs1)) [.slice afs1 fs1.length cfs1]) :
    Calls Try.prog 49 #[.agg #[.slice afs1 fs1.length cfs1]] w fun e w' => e = .returned (.bool (bookEra fs1)) ∧ Below w.heap.size w w' := by
  have hB := (Below.refl w.heap.size w).alloc (Nat.le_refl _) (.cells #[.slice afs1 fs1.length cfs1] 33)
  have HX0 := hid ((Boxes.nil w).alloc #[.slice afs1 fs1.length cfs1] 33 (0, 0))
  have hc := impl_ValidBook fs1 afs1 cfs1 (w.alloc (.cells #[.slice afs1 fs1.length cfs1] 33)) hM (hr.below hB)
  have hv := fun W (hW : Below w.heap.size w W) => contains_Co_0 71 Try.call71 badEra (fun _ => True) (fun _ _ _ h => h) fs1 afs1 cfs1 W trivial (hr.fBk.below hW)
    (fun k3 v3 ds3 ks3 ads3 cds3 aks3 cks3 j V hj _ hrv => impl_badEra k3 v3 ds3 ks3 ads3 cds3 aks3 cks3 V (by have := Co.bulk_get fs1 j _ hj; omega) hrv)
  have HB := hid hB
  by_cases hk : bookOk fs1 = true
  case neg =>
    have HF := hid (show bookEra fs1 = false by simp [bookEra, hk])
    rw [(Bool.not_eq_true _).mp hk] at hc
    have HC := hid hc
    clear hc hv hr hB hM hk HX0
    go_enter Try.func49, Try.ntmps49
    go_wp2_with fail
    refine HC.out.mono ?_
    rintro e w1 ⟨rfl, hb⟩
    have HB1 := hid (HB.out.trans (hb.mono HB.out.size))
    clear hb
    go_wp2_with fail
    go_ret
    exact ⟨ret_bool HF.out.symm, HB1.out⟩
  case pos =>
    have hd : defsOk fs1.length fs1 = true := by simp only [bookOk, Bool.and_eq_true] at hk; exact hk.2
    have HF := hid (show bookEra fs1 = fs1.all Co.era by simp [bookEra, hk])
    rw [hk] at hc
    rw [all_era _ fs1 hd] at hv
    generalize fs1.all Co.era = r at hv HF
    have HC := hid hc
    have HV := hid hv
    clear hc hv hr hB hM hk hd
    go_enter Try.func49, Try.ntmps49
    go_wp2_with fail
    refine HC.out.mono ?_
    rintro e w1 ⟨rfl, hb⟩
    have HB1 := hid (HB.out.trans (hb.mono HB.out.size))
    have y0 := (HX0.out.below hb).at 0 0 rfl rfl
    clear hb
    go_wp2_with fail
    refine (HV.out _ HB1.out).mono ?_
    rintro e w2 ⟨rfl, hb⟩
    have HB2 := hid (HB1.out.trans (hb.mono HB1.out.size))
    clear hb y0
    go_wp2_with fail
    go_ret
    exact ⟨ret_bool (by rw [HF.out]), HB2.out⟩
end Go.Proofs.Ytejdbmeoaekhcaa
/- was: MaI -/
namespace Go.Proofs.Ytejdbmeoaekhcaa
open Go.ChangeShapes Go.WideShapes Go.ChangeAt Go.RowKit
set_option linter.unusedVariables false

def machT (fs : List Co) (c : Co) : Bool := ((Co.ok c && Co.clo c 0) && (Co.ok c && Co.era c)) && Co.refs c fs.length
def machOk (fs : List Co) (c : Co) : Bool := bookEra fs && machT fs c
theorem impl_isErasedTerm (fs1 : List Co) (afs1 : Option Addr) (cfs1 : Nat) (k1 : Int) (v1 : Int) (ds1 : List Int) (ks1 : List Co) (ads1 : Option Addr) (cds1 : Nat) (aks1 : Option Addr) (cks1 : Nat) (w : World) (hMb : Co.bulks fs1 ≤ 1048576) (hM : Co.bulk (Co.mk k1 v1 ds1 ks1) ≤ 1048576) (hrb : RdS w (Bk.d (.mk fs1)) [.slice afs1 fs1.length cfs1]) (hr : RdS w (Co.d (Co.mk k1 v1 ds1 ks1)) [.int .i64 k1, .int .i64 v1, .slice ads1 ds1.length cds1, .slice aks1 ks1.length cks1]) :
    Calls Try.prog 50 #[.agg #[.slice afs1 fs1.length cfs1], .agg #[.int .i64 k1, .int .i64 v1, .slice ads1 ds1.length cds1, .slice aks1 ks1.length cks1]] w fun e w' => e = .returned (.bool (((Co.ok (Co.mk k1 v1 ds1 ks1) && Co.clo (Co.mk k1 v1 ds1 ks1) 0) && (Co.ok (Co.mk k1 v1 ds1 ks1) && Co.era (Co.mk k1 v1 ds1 ks1))) && Co.refs (Co.mk k1 v1 ds1 ks1) (fs1.length : Int))) ∧ Below w.heap.size w w' := by
  have HX0 := hid (((Boxes.nil w).alloc #[.slice afs1 fs1.length cfs1] 33 (0, 0)).alloc #[.int .i64 k1, .int .i64 v1, .slice ads1 ds1.length cds1, .slice aks1 ks1.length cks1] 36 (0, 0))
  have HB0 := hid (((Below.refl w.heap.size w).alloc (Nat.le_refl _) (.cells #[.slice afs1 fs1.length cfs1] 33)).alloc (by simp) (.cells #[.int .i64 k1, .int .i64 v1, .slice ads1 ds1.length cds1, .slice aks1 ks1.length cks1] 36))
  have h0 := fun W (hb : Below w.heap.size w W) => impl_IsClosed k1 v1 ds1 ks1 ads1 cds1 aks1 cks1 W hM (hr.below hb)
  have h1 := fun W (hb : Below w.heap.size w W) => impl_IsErased k1 v1 ds1 ks1 ads1 cds1 aks1 cks1 W hM (hr.below hb)
  have h2 := fun W (hb : Below w.heap.size w W) => impl_namesOnly k1 v1 ds1 ks1 ads1 cds1 aks1 cks1 (fs1.length : Int) W (hr.below hb)
  generalize hr0 : (Co.ok (Co.mk k1 v1 ds1 ks1) && Co.clo (Co.mk k1 v1 ds1 ks1) 0) = r0 at h0 ⊢
  generalize hr1 : (Co.ok (Co.mk k1 v1 ds1 ks1) && Co.era (Co.mk k1 v1 ds1 ks1)) = r1 at h1 ⊢
  generalize hr2 : (Co.refs (Co.mk k1 v1 ds1 ks1) (fs1.length : Int)) = r2 at h2 ⊢
  have H0 := hid h0
  have H1 := hid h1
  have H2 := hid h2
  clear hr hrb h0 hr0 h1 hr1 h2 hr2
  go_enter Try.func50, Try.ntmps50
  have g0_0 := HX0.out.at 0 0 rfl rfl
  have g0_1 := HX0.out.at 0 1 rfl rfl
  have g0_2 := HX0.out.at 0 2 rfl rfl
  have g0_3 := HX0.out.at 0 3 rfl rfl
  have g1_0 := HX0.out.at 1 0 rfl rfl
  simp only [World.size_alloc] at g0_0 g0_1 g0_2 g0_3
  go_wp2_with fail
  refine (H0.out _ HB0.out).mono ?_
  rintro e w1 ⟨rfl, hb⟩
  have HB1 := hid (HB0.out.trans (hb.mono HB0.out.size))
  have HX1 := hid (HX0.out.below hb)
  clear hb g0_0 g0_1 g0_2 g0_3 g1_0
  cases r0
  case false =>
    go_wp2_with fail
    go_ret
    exact ⟨by simp, HB1.out⟩
  case true =>
  have g0_0 := HX1.out.at 0 0 rfl rfl
  have g0_1 := HX1.out.at 0 1 rfl rfl
  have g0_2 := HX1.out.at 0 2 rfl rfl
  have g0_3 := HX1.out.at 0 3 rfl rfl
  have g1_0 := HX1.out.at 1 0 rfl rfl
  simp only [World.size_alloc] at g0_0 g0_1 g0_2 g0_3
  go_wp2_with fail
  refine (H1.out _ HB1.out).mono ?_
  rintro e w2 ⟨rfl, hb⟩
  have HB2 := hid (HB1.out.trans (hb.mono HB1.out.size))
  have HX2 := hid (HX1.out.below hb)
  clear hb g0_0 g0_1 g0_2 g0_3 g1_0
  cases r1
  case false =>
    go_wp2_with fail
    go_ret
    exact ⟨by simp, HB2.out⟩
  case true =>
  have g0_0 := HX2.out.at 0 0 rfl rfl
  have g0_1 := HX2.out.at 0 1 rfl rfl
  have g0_2 := HX2.out.at 0 2 rfl rfl
  have g0_3 := HX2.out.at 0 3 rfl rfl
  have g1_0 := HX2.out.at 1 0 rfl rfl
  simp only [World.size_alloc] at g0_0 g0_1 g0_2 g0_3
  go_wp2_with fail
  refine (H2.out _ HB2.out).mono ?_
  rintro e w3 ⟨rfl, hb⟩
  have HB3 := hid (HB2.out.trans (hb.mono HB2.out.size))
  have HX3 := hid (HX2.out.below hb)
  clear hb g0_0 g0_1 g0_2 g0_3 g1_0
  go_wp2_with fail
  go_ret
  exact ⟨by simp, HB3.out⟩
theorem impl_isMachineState (fs1 : List Co) (afs1 : Option Addr) (cfs1 : Nat) (k1 : Int) (v1 : Int) (ds1 : List Int) (ks1 : List Co) (ads1 : Option Addr) (cds1 : Nat) (aks1 : Option Addr) (cks1 : Nat) (w : World) (hMb : Co.bulks fs1 ≤ 1048576) (hM : Co.bulk (Co.mk k1 v1 ds1 ks1) ≤ 1048576) (hrb : RdS w (Bk.d (.mk fs1)) [.slice afs1 fs1.length cfs1]) (hr : RdS w (Co.d (Co.mk k1 v1 ds1 ks1)) [.int .i64 k1, .int .i64 v1, .slice ads1 ds1.length cds1, .slice aks1 ks1.length cks1]) :
    Calls Try.prog 26 #[.agg #[.slice afs1 fs1.length cfs1], .agg #[.int .i64 k1, .int .i64 v1, .slice ads1 ds1.length cds1, .slice aks1 ks1.length cks1]] w fun e w' => e = .returned (.bool (bookEra fs1 && (((Co.ok (Co.mk k1 v1 ds1 ks1) && Co.clo (Co.mk k1 v1 ds1 ks1) 0) && (Co.ok (Co.mk k1 v1 ds1 ks1) && Co.era (Co.mk k1 v1 ds1 ks1))) && Co.refs (Co.mk k1 v1 ds1 ks1) (fs1.length : Int)))) ∧ Below w.heap.size w w' := by
  have HX0 := hid (((Boxes.nil w).alloc #[.slice afs1 fs1.length cfs1] 33 (0, 0)).alloc #[.int .i64 k1, .int .i64 v1, .slice ads1 ds1.length cds1, .slice aks1 ks1.length cks1] 36 (0, 0))
  have HB0 := hid (((Below.refl w.heap.size w).alloc (Nat.le_refl _) (.cells #[.slice afs1 fs1.length cfs1] 33)).alloc (by simp) (.cells #[.int .i64 k1, .int .i64 v1, .slice ads1 ds1.length cds1, .slice aks1 ks1.length cks1] 36))
  have h0 := fun W (hb : Below w.heap.size w W) => impl_isErasedBook fs1 afs1 cfs1 W hMb (hrb.below hb)
  have h1 := fun W (hb : Below w.heap.size w W) => impl_isErasedTerm fs1 afs1 cfs1 k1 v1 ds1 ks1 ads1 cds1 aks1 cks1 W hMb hM (hrb.below hb) (hr.below hb)
  generalize hr0 : (bookEra fs1) = r0 at h0 ⊢
  generalize hr1 : (((Co.ok (Co.mk k1 v1 ds1 ks1) && Co.clo (Co.mk k1 v1 ds1 ks1) 0) && (Co.ok (Co.mk k1 v1 ds1 ks1) && Co.era (Co.mk k1 v1 ds1 ks1))) && Co.refs (Co.mk k1 v1 ds1 ks1) (fs1.length : Int)) = r1 at h1 ⊢
  have H0 := hid h0
  have H1 := hid h1
  clear hr hrb h0 hr0 h1 hr1
  go_enter Try.func26, Try.ntmps26
  have g0_0 := HX0.out.at 0 0 rfl rfl
  have g0_1 := HX0.out.at 0 1 rfl rfl
  have g0_2 := HX0.out.at 0 2 rfl rfl
  have g0_3 := HX0.out.at 0 3 rfl rfl
  have g1_0 := HX0.out.at 1 0 rfl rfl
  simp only [World.size_alloc] at g0_0 g0_1 g0_2 g0_3
  go_wp2_with fail
  refine (H0.out _ HB0.out).mono ?_
  rintro e w1 ⟨rfl, hb⟩
  have HB1 := hid (HB0.out.trans (hb.mono HB0.out.size))
  have HX1 := hid (HX0.out.below hb)
  clear hb g0_0 g0_1 g0_2 g0_3 g1_0
  cases r0
  case false =>
    go_wp2_with fail
    go_ret
    exact ⟨by simp, HB1.out⟩
  case true =>
  have g0_0 := HX1.out.at 0 0 rfl rfl
  have g0_1 := HX1.out.at 0 1 rfl rfl
  have g0_2 := HX1.out.at 0 2 rfl rfl
  have g0_3 := HX1.out.at 0 3 rfl rfl
  have g1_0 := HX1.out.at 1 0 rfl rfl
  simp only [World.size_alloc] at g0_0 g0_1 g0_2 g0_3
  go_wp2_with fail
  refine (H1.out _ HB1.out).mono ?_
  rintro e w2 ⟨rfl, hb⟩
  have HB2 := hid (HB1.out.trans (hb.mono HB1.out.size))
  have HX2 := hid (HX1.out.below hb)
  clear hb g0_0 g0_1 g0_2 g0_3 g1_0
  go_wp2_with fail
  go_ret
  exact ⟨by simp, HB2.out⟩
end Go.Proofs.Ytejdbmeoaekhcaa
/- was: Mach -/
namespace Go.Proofs.Ytejdbmeoaekhcaa
open Go.RowKit

theorem mach_spec (fs : List Co) (c : Co) : (bookOk fs && ((Co.ok c && Co.clo c 0) && (Co.era c && (Co.refs c (fs.length : Int) && fs.all Co.era)))) = machOk fs c := by
  unfold machOk machT bookEra
  cases bookOk fs <;> cases Co.ok c <;> cases Co.clo c 0 <;> cases Co.era c <;> cases Co.refs c fs.length <;> cases fs.all Co.era <;> rfl
theorem mach_good {fs : List Co} {c : Co} (h : machOk fs c = true) : Co.good c = true ∧ Co.refs c (fs.length : Int) = true := by
  simp only [machOk, machT, Bool.and_eq_true] at h
  exact ⟨ok_good h.2.1.1.1, h.2.2⟩
end Go.Proofs.Ytejdbmeoaekhcaa
/- was: MaS -/
namespace Go.Proofs.Ytejdbmeoaekhcaa
open Go.ChangeShapes Go.WideShapes Go.ChangeAt Go.RowKit
set_option linter.unusedVariables false

set_option maxHeartbeats 1000000 in
theorem spec_l08State (fs1 : List Co) (afs1 : Option Addr) (cfs1 : Nat) (k1 : Int) (v1 : Int) (ds1 : List Int) (ks1 : List Co) (ads1 : Option Addr) (cds1 : Nat) (aks1 : Option Addr) (cks1 : Nat) (b0 o0 b1 o1 : Nat) (w : World) (hMb : Co.bulks fs1 ≤ 1048576) (hM : Co.bulk (Co.mk k1 v1 ds1 ks1) ≤ 1048576) (hrb : RdS w (Bk.d (.mk fs1)) [.slice afs1 fs1.length cfs1]) (hr : RdS w (Co.d (Co.mk k1 v1 ds1 ks1)) [.int .i64 k1, .int .i64 v1, .slice ads1 ds1.length cds1, .slice aks1 ks1.length cks1]) (y0 : w.cell? ⟨b0, o0, none⟩ = some (.slice afs1 fs1.length cfs1)) (x0 : w.cell? ⟨b1, o1, none⟩ = some (.int .i64 k1)) (x1 : w.cell? ⟨b1, o1 + 1, none⟩ = some (.int .i64 v1)) (x2 : w.cell? ⟨b1, o1 + 2, none⟩ = some (.slice ads1 ds1.length cds1)) (x3 : w.cell? ⟨b1, o1 + 3, none⟩ = some (.slice aks1 ks1.length cks1)) :
    Calls Try.prog 22 #[.pointer (some ⟨b0, o0, none⟩), .pointer (some ⟨b1, o1, none⟩)] w fun e w' => e = .returned (.bool (bookOk fs1 && ((Co.ok (Co.mk k1 v1 ds1 ks1) && Co.clo (Co.mk k1 v1 ds1 ks1) 0) && (Co.era (Co.mk k1 v1 ds1 ks1) && (Co.refs (Co.mk k1 v1 ds1 ks1) (fs1.length : Int) && fs1.all Co.era))))) ∧ Below w.heap.size w w' := by
  have L0 := World.block_lt_of_cell? _ _ y0
  have L1 := World.block_lt_of_cell? _ _ x0
  have Y0 := hid y0
  have HB0 := hid (Below.refl w.heap.size w)
  have hlk := Co.bulks_length fs1
  obtain ⟨_, _, e, _, _, h4⟩ := hrb.fBk.eCo
  simp only [Value.slice.injEq, true_and] at e
  obtain ⟨rfl, rfl⟩ := e
  have H4 := hid h4
  have HMB := hid hMb
  clear h4
  have h0 := fun W (hb : Below w.heap.size w W) => spec_l06Book fs1 afs1 cfs1 b0 o0 W hMb ((hb.cell (p := ⟨b0, o0, none⟩) L0).trans y0) (hrb.below hb)
  have h1 := fun W (hb : Below w.heap.size w W) => spec_l06Closed k1 v1 ds1 ks1 ads1 cds1 aks1 cks1 b1 o1 W hM ((hb.cell (p := ⟨b1, o1, none⟩) L1).trans x0) ((hb.cell (p := ⟨b1, o1 + 1, none⟩) L1).trans x1) ((hb.cell (p := ⟨b1, o1 + 2, none⟩) L1).trans x2) ((hb.cell (p := ⟨b1, o1 + 3, none⟩) L1).trans x3) (hr.below hb)
  have h2 := fun W (hb : Below w.heap.size w W) => spec_era_all (Co.bulk (Co.mk k1 v1 ds1 ks1) + 1) k1 v1 ds1 ks1 ads1 cds1 aks1 cks1 b1 o1 W (by omega) ((hb.cell (p := ⟨b1, o1, none⟩) L1).trans x0) ((hb.cell (p := ⟨b1, o1 + 1, none⟩) L1).trans x1) ((hb.cell (p := ⟨b1, o1 + 2, none⟩) L1).trans x2) ((hb.cell (p := ⟨b1, o1 + 3, none⟩) L1).trans x3) (hr.below hb)
  have h3 := fun W (hb : Below w.heap.size w W) => ref_all (Co.bulk (Co.mk k1 v1 ds1 ks1) + 1) k1 v1 ds1 ks1 ads1 cds1 aks1 cks1 b1 o1 (fs1.length : Int) W (by omega) ((hb.cell (p := ⟨b1, o1, none⟩) L1).trans x0) ((hb.cell (p := ⟨b1, o1 + 1, none⟩) L1).trans x1) ((hb.cell (p := ⟨b1, o1 + 2, none⟩) L1).trans x2) ((hb.cell (p := ⟨b1, o1 + 3, none⟩) L1).trans x3) (hr.below hb)
  generalize hr0 : (bookOk fs1) = r0 at h0 ⊢
  generalize hr1 : (Co.ok (Co.mk k1 v1 ds1 ks1) && Co.clo (Co.mk k1 v1 ds1 ks1) 0) = r1 at h1 ⊢
  generalize hr2 : (Co.era (Co.mk k1 v1 ds1 ks1)) = r2 at h2 ⊢
  generalize hr3 : (Co.refs (Co.mk k1 v1 ds1 ks1) (fs1.length : Int)) = r3 at h3 ⊢
  have H0 := hid h0
  have H1 := hid h1
  have H2 := hid h2
  have H3 := hid h3
  clear hr hrb y0 x0 x1 x2 x3 hM hMb h0 h1 h2 h3 hr0 hr1 hr2 hr3
  go_enter Try.func22, Try.ntmps22
  go_wp2_with fail
  refine (H0.out _ HB0.out).mono ?_
  rintro e w1 ⟨rfl, hb⟩
  have HB1 := hid (HB0.out.trans (hb.mono HB0.out.size))
  clear hb
  cases r0
  case false =>
    go_wp2_with fail
    go_ret
    exact ⟨by simp, HB1.out⟩
  case true =>
  go_wp2_with fail
  refine (H1.out _ HB1.out).mono ?_
  rintro e w2 ⟨rfl, hb⟩
  have HB2 := hid (HB1.out.trans (hb.mono HB1.out.size))
  clear hb
  cases r1
  case false =>
    go_wp2_with fail
    go_ret
    exact ⟨by simp, HB2.out⟩
  case true =>
  go_wp2_with fail
  refine (H2.out _ HB2.out).mono ?_
  rintro e w3 ⟨rfl, hb⟩
  have HB3 := hid (HB2.out.trans (hb.mono HB2.out.size))
  clear hb
  cases r2
  case false =>
    go_wp2_with fail
    go_ret
    exact ⟨by simp, HB3.out⟩
  case true =>
  have z2 := (HB3.out.cell (p := ⟨b0, o0, none⟩) L0).trans Y0.out
  go_wp2_with fail
  clear z2
  refine (H3.out _ HB3.out).mono ?_
  rintro e w4 ⟨rfl, hb⟩
  have HB4 := hid (HB3.out.trans (hb.mono HB3.out.size))
  clear hb
  cases r3
  case false =>
    go_wp2_with fail
    go_ret
    exact ⟨by simp, HB4.out⟩
  case true =>
  have z3 := (HB4.out.cell (p := ⟨b0, o0, none⟩) L0).trans Y0.out
  go_wp2_with fail
  clear z3
  go_loopw [5] (fun i wr => ∃ (j : Nat), j ≤ fs1.length ∧ i = .int .i64 j ∧ Hid (∀ (i : Nat) t, i < j → fs1[i]? = some t → Co.era t = true) ∧ Hid (Below w.heap.size w wr)) (fun i _ => fs1.length - (intOf i).toNat)
  case atStart => exact ⟨0, by omega, rfl, fun i t hi => absurd hi (by omega), HB4.out⟩
  case round =>
    obtain ⟨j, hj, rfl, HJ, HB⟩ := hrel
    have z0 := (HB.out.cell (p := ⟨b0, o0, none⟩) L0).trans Y0.out
    by_cases hlt : j < fs1.length
    case neg =>
      have HA := hid (show fs1.all Co.era = true by
        rw [List.all_eq_true]
        intro t ht
        obtain ⟨i, hi⟩ := List.getElem?_of_mem ht
        exact HJ.out i t (by have := (List.getElem?_eq_some_iff.1 hi).1; omega) hi)
      go_wp2_with fail
      go_ret
      exact ⟨by rw [HA.out]; rfl, HB.out⟩
    case pos =>
      obtain ⟨b, o, rfl, hbl, hall⟩ := H4.out (by omega)
      obtain ⟨t, ht⟩ : ∃ t, fs1[j]? = some t := ⟨_, List.getElem?_eq_getElem hlt⟩
      have hbg := Co.bulk_get fs1 j t ht
      have HT := hid ht
      obtain ⟨k3, v3, ds3, ks3⟩ := t
      obtain ⟨ads3, cds3, aks3, cks3, q0, q1, q2, q3, hrk⟩ := hall j k3 v3 ds3 ks3 ht
      have hc := spec_era_all (Co.bulk (Co.mk k3 v3 ds3 ks3) + 1) k3 v3 ds3 ks3 ads3 cds3 aks3 cks3 b (o + j * 4) wr (by omega) ((HB.out.cell (p := ⟨b, o + j * 4, none⟩) hbl).trans q0) ((HB.out.cell (p := ⟨b, o + j * 4 + 1, none⟩) hbl).trans q1) ((HB.out.cell (p := ⟨b, o + j * 4 + 2, none⟩) hbl).trans q2) ((HB.out.cell (p := ⟨b, o + j * 4 + 3, none⟩) hbl).trans q3) (hrk.below HB.out)
      cases hera : Co.era (Co.mk k3 v3 ds3 ks3)
      case false =>
        have HA := hid (show fs1.all Co.era = false by
          rw [List.all_eq_false]
          exact ⟨_, List.mem_of_getElem? HT.out, by rw [hera]; decide⟩)
        rw [hera] at hc
        have HC := hid hc
        clear hall ht hrk hc hera hbg q0 q1 q2 q3
        go_wp2_with fail
        refine HC.out.mono ?_
        rintro e w6 ⟨rfl, hb⟩
        have HB6 := hid (HB.out.trans (hb.mono HB.out.size))
        clear hb
        go_wp2_with fail
        go_ret
        exact ⟨by rw [HA.out]; rfl, HB6.out⟩
      case true =>
        have HJ2 := hid (show ∀ (i : Nat) t, i < j + 1 → fs1[i]? = some t → Co.era t = true by
          intro i t hi hti
          rcases Nat.lt_succ_iff_lt_or_eq.1 hi with h | rfl
          · exact HJ.out i t h hti
          · rw [HT.out] at hti; cases hti; exact hera)
        rw [hera] at hc
        have HC := hid hc
        clear hall ht hrk hc hera hbg q0 q1 q2 q3
        go_wp2_with fail
        refine HC.out.mono ?_
        rintro e w6 ⟨rfl, hb⟩
        have HB6 := hid (HB.out.trans (hb.mono HB.out.size))
        clear hb
        go_wp2_with fail
        go_roundw
        case rel => exact ⟨j + 1, by omega, by go_num, HJ2, HB6⟩
        case measure => first | (simp [intOf]; done) | (simp [intOf]; omega)
end Go.Proofs.Ytejdbmeoaekhcaa
