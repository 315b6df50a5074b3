/- Walks: declared names, in the reference. -/
import Derived.Test.YtgpefnlpbjnjbaaGreatDatPlain
import Derived.Lib.QuietBelow
import Derived.BigQuiet
namespace Go.Proofs.YtgpefnlpbjnjbaaGreat
open Go.ChangeShapes Go.WideShapes Go.ChangeAt Go.RowKit Go.BigFrame
open Go.Sort (grow)
set_option linter.unusedVariables false

theorem spec_Named (ts : List Dat) (a : Option Addr) (c : Nat) (nm : ByteArray) (w : World) (hr : RdL w (Dat.ds ts) (.slice a ts.length c)) :
    Calls Tryz.prog 87 #[.slice a ts.length c, .string nm] w fun e w' => e = .returned (.int .i64 (named ts nm)) ∧ w = w' := by
  obtain ⟨_, _, e, h2, h3, h4⟩ := hr.eDat
  simp only [Value.slice.injEq, true_and] at e
  obtain ⟨rfl, rfl⟩ := e
  have H4 := hid h4
  clear hr h4
  go_enter Tryz.func87, Tryz.ntmps87
  go_wp2_with fail
  go_loopw [5] (fun i wr => ∃ (j : Nat), j ≤ ts.length ∧ i = .int .i64 j ∧ Hid (∀ (i : Nat) t, i < j → ts[i]? = some t → datIs nm t = false) ∧ w = wr) (fun i _ => ts.length - (intOf i).toNat)
  case atStart => exact ⟨0, by omega, rfl, fun i t hi => absurd hi (by omega), rfl⟩
  case round =>
    obtain ⟨j, hj, rfl, HJ, rfl⟩ := hrel
    by_cases hlt : j < ts.length
    case pos =>
      obtain ⟨b, o, rfl, hbl, hall⟩ := H4.out (by omega)
      obtain ⟨t, ht⟩ : ∃ t, ts[j]? = some t := ⟨_, List.getElem?_eq_getElem hlt⟩
      obtain ⟨n3, qs3⟩ := t
      obtain ⟨aqs3, cqs3, q0, q1, hrk⟩ := hall j n3 qs3 ht
      clear hall H4
      have HT := hid ht
      by_cases hq : n3 = nm
      case pos =>
        have hb := bytes_eq hq
        have HQ := hid (show datIs nm (.mk n3 qs3) = true by simp [datIs, hq])
        clear hq ht hrk
        go_wp2_with fail
        go_ret
        exact ⟨ret_int (fstAt_yes _ ts j _ HT.out HQ.out HJ.out).symm, rfl⟩
      case neg =>
        have hb := bytes_ne hq
        have HQ := hid (show datIs nm (.mk n3 qs3) = false by simp [datIs, hq])
        clear hq ht hrk
        go_wp2_with fail
        go_roundw
        case rel => exact ⟨j + 1, by omega, by go_num, fun i t hi hti => (Nat.lt_succ_iff_lt_or_eq.1 hi).elim (fun hi => HJ.out i t hi hti) (fun he => by subst he; obtain rfl := Option.some.inj (hti.symm.trans HT.out); exact HQ.out), by first | rfl | trivial⟩
        case measure => simp [intOf]; omega
    case neg =>
      go_wp2_with fail
      go_ret
      exact ⟨ret_int (fstAt_no _ ts fun i t hti => HJ.out i t (by have := (List.getElem?_eq_some_iff.1 hti).1; omega) hti).symm, rfl⟩

def KnW (ts : List Dat) (a : Option Addr) (c : Nat) (N : Nat) : Prop := ∀ (k1 : Int) (n1 : ByteArray) (ks1 : List Ty) (aks1 : Option Addr) (cks1 : Nat) (w : World), Ty.bulk (Ty.mk k1 n1 ks1) < N → RdL w (Dat.ds ts) (.slice a ts.length c) → RdS w (Ty.d (Ty.mk k1 n1 ks1)) [.int .i64 k1, .string n1, .slice aks1 ks1.length cks1] →
  Calls Tryz.prog 47 #[.slice a ts.length c, .agg #[.int .i64 k1, .string n1, .slice aks1 ks1.length cks1]] w fun e w' => e = .returned (.bool (Ty.known ts (Ty.mk k1 n1 ks1))) ∧ Below w.heap.size w w'
set_option maxHeartbeats 1000000 in
theorem kn_step (ts : List Dat) (a : Option Addr) (c : Nat) (N : Nat) (ih : KnW ts a c N) : KnW ts a c (N + 1) := by
  intro k1 n1 ks1 aks1 cks1 w hN hd hr
  have hbk : Ty.bulk (Ty.mk k1 n1 ks1) = n1.size + Ty.bulks ks1 := rfl
  have HE := hid (show Ty.known ts (Ty.mk k1 n1 ks1) = (if k1 = 2 then Ty.knows ts n1 else Ty.knowns ts ks1) from by rw [Ty.known])
  have HX0 := hid ((Boxes.nil w).alloc #[.int .i64 k1, .string n1, .slice aks1 ks1.length cks1] 59 (0, 0))
  have HB0 := hid ((Below.refl w.heap.size w).alloc (Nat.le_refl _) (.cells #[.int .i64 k1, .string n1, .slice aks1 ks1.length cks1] 59))
  by_cases h2 : k1 = 2
  case pos =>
    have HF := hid (show Ty.known ts (Ty.mk k1 n1 ks1) = Ty.knows ts n1 by rw [HE.out, if_pos h2])
    subst h2
    have HC := hid (spec_Named ts a c n1 _ (hd.below HB0.out))
    have hge := fstAt_ge (datIs n1) ts
    by_cases hk : 0 ≤ named ts n1
    all_goals
      have HK : Hid (Ty.knows ts n1 = decide (0 ≤ named ts n1)) := rfl
      have HH := hid hk
      first
        | have hkb : decide (0 ≤ named ts n1) = true := by simpa using hk
        | have hkb : decide (0 ≤ named ts n1) = false := by simpa using hk
      have HKB := hid hkb
      generalize named ts n1 = m at HC hkb HKB HK
      clear hr ih hN hbk hd hk hge HH HX0 HE
      go_enter Tryz.func47, Tryz.ntmps47
      go_wp2_with fail
      refine HC.out.mono ?_
      rintro e w1 ⟨rfl, rfl⟩
      go_wp2_with fail
      go_ret
      exact ⟨ret_bool (by rw [HF.out, HK.out]; exact HKB.out.symm), HB0.out⟩
  case neg =>
    have g2 : (k1 == 2) = false := by simp [h2]
    have HF := hid (show Ty.known ts (Ty.mk k1 n1 ks1) = Ty.knowns ts ks1 by rw [HE.out, if_neg h2])
    obtain ⟨_, _, e, h2', h3, h4⟩ := hr.fTy.2.2.eTy
    simp only [Value.slice.injEq, true_and] at e
    obtain ⟨rfl, rfl⟩ := e
    have IH := hid ih
    have H4 := hid h4
    have HK := hid hbk
    have HN := hid hN
    have HD := hid hd
    clear ih hr h4 hbk hN h2 HE hd
    go_enter Tryz.func47, Tryz.ntmps47
    go_wp2_with fail
    go_loopw [5] (fun i wr => ∃ (j : Nat), j ≤ ks1.length ∧ i = .int .i64 j ∧ Hid (∀ (i : Nat) t, i < j → ks1[i]? = some t → Ty.known ts t = true) ∧ Below (w.heap.size + 1) (w.alloc (.cells #[.int .i64 k1, .string n1, .slice aks1 ks1.length cks1] 59)) wr) (fun i _ => ks1.length - (intOf i).toNat)
    case atStart => exact ⟨0, by omega, rfl, fun i t hi => absurd hi (by omega), Below.refl _ _⟩
    case round =>
      obtain ⟨j, hj, rfl, HJ, hb0⟩ := hrel
      have hb : Below w.heap.size w wr := HB0.out.trans (hb0.mono (by omega))
      have HXr := hid (HX0.out.below (by simpa using hb0))
      have z2 := HXr.out.at 0 2 rfl rfl
      by_cases hlt : j < ks1.length
      case pos =>
        obtain ⟨b, o, rfl, hbl, hall⟩ := H4.out (by omega)
        obtain ⟨t, ht⟩ : ∃ t, ks1[j]? = some t := ⟨_, List.getElem?_eq_getElem hlt⟩
        obtain ⟨k3, n3, ks3⟩ := t
        obtain ⟨aks3, cks3, q0, q1, q2, hrk⟩ := hall j k3 n3 ks3 ht
        clear hall H4
        have hbg := Ty.bulk_get ks1 j _ ht
        have hc := IH.out k3 n3 ks3 aks3 cks3 wr (by have := HK.out; have := HN.out; omega) (HD.out.below hb) (hrk.below hb)
        have d0 := (hb.cell (p := ⟨b, o + j * 3, none⟩) hbl).trans q0
        have d1 := (hb.cell (p := ⟨b, o + j * 3 + 1, none⟩) hbl).trans q1
        have d2 := (hb.cell (p := ⟨b, o + j * 3 + 2, none⟩) hbl).trans q2
        have HT := hid ht
        by_cases hg : Ty.known ts (.mk k3 n3 ks3) = true
        all_goals
          first | rw [hg] at hc | rw [(Bool.not_eq_true _).mp hg] at hc
          have HC := hid hc
          have HG := hid hg
          clear ht hrk q0 q1 q2 hc hg
          go_wp2_with fail
          refine HC.out.mono ?_
          rintro e w1 ⟨rfl, hb1⟩
          have hbx := hb0.trans (hb1.mono (by have := hb0.size; simpa using this))
          have hbw := hb.trans (hb1.mono hb.size)
          clear HC d0 d1 d2 z2 hb1
          go_wp2_with fail
        · go_roundw
          case rel => exact ⟨j + 1, by omega, by go_num, fun i t hi hti => (Nat.lt_succ_iff_lt_or_eq.1 hi).elim (fun hi => HJ.out i t hi hti) (fun he => by subst he; obtain rfl := Option.some.inj (hti.symm.trans HT.out); exact HG.out), hbx⟩
          case measure => simp [intOf]; omega
        · go_ret
          exact ⟨ret_bool (by rw [HF.out, Ty.knowns_no ts ks1 j _ HT.out ((Bool.not_eq_true _).mp HG.out)]), hbw⟩
      case neg =>
        go_wp2_with fail
        go_ret
        exact ⟨ret_bool (by rw [HF.out, Ty.knowns_yes ts ks1 fun i t hti => HJ.out i t (by have := (List.getElem?_eq_some_iff.1 hti).1; omega) hti]), hb⟩
theorem kn_all (ts : List Dat) (a : Option Addr) (c : Nat) : ∀ N, KnW ts a c N
  | 0 => fun _ _ _ _ _ _  h => absurd h (by omega)
  | N + 1 => kn_step ts a c N (kn_all ts a c N)
theorem spec_Known (ts : List Dat) (a : Option Addr) (c : Nat) (k1 : Int) (n1 : ByteArray) (ks1 : List Ty) (aks1 : Option Addr) (cks1 : Nat) (w : World) (hd : RdL w (Dat.ds ts) (.slice a ts.length c)) (hr : RdS w (Ty.d (Ty.mk k1 n1 ks1)) [.int .i64 k1, .string n1, .slice aks1 ks1.length cks1]) :
    Calls Tryz.prog 47 #[.slice a ts.length c, .agg #[.int .i64 k1, .string n1, .slice aks1 ks1.length cks1]] w fun e w' => e = .returned (.bool (Ty.known ts (Ty.mk k1 n1 ks1))) ∧ Below w.heap.size w w' :=
  kn_all ts a c (Ty.bulk (Ty.mk k1 n1 ks1) + 1) k1 n1 ks1 aks1 cks1 w (by omega) hd hr
end Go.Proofs.YtgpefnlpbjnjbaaGreat
