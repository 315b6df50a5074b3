/- Walks: slices.EqualFunc over a function value known by its contract. -/
import Derived.Test.YtdcifcfkjhpokaaEqBy
import Derived.Test.YtdcifcfkjhpokaaDPg
import Derived.Test.YtdcifcfkjhpokaaTwo
import Derived.Lib.QuietBelow
namespace Go.Proofs.Ytdcifcfkjhpokaa
open Go.ChangeShapes Go.WideShapes Go.ChangeAt Go.RowKit
set_option linter.unusedVariables false

set_option maxRecDepth 100000 in
set_option maxHeartbeats 1000000 in
theorem equalFunc_Ty (F : FuncId) (eF : ∀ args (w : World), (callFunc F args).run Try.prog w = .ok (.enter F args) w) (p : Ty → Ty → Bool) (ts : List Ty) (us : List Ty) (a a' : Option Addr) (cap cap' : Nat) (w : World)
    (hr : RdL w (Ty.ds ts) (.slice a ts.length cap)) (hr' : RdL w (Ty.ds us) (.slice a' us.length cap'))
    (hc : ∀ (k3 : Int) (n3 : ByteArray) (ks3 : List Ty) (aks3 : Option Addr) (cks3 : Nat) (k4 : Int) (n4 : ByteArray) (ks4 : List Ty) (aks4 : Option Addr) (cks4 : Nat) (j : Nat) (W : World), ts[j]? = some (Ty.mk k3 n3 ks3) → us[j]? = some (Ty.mk k4 n4 ks4) → Below w.heap.size w W → RdS W (Ty.d (Ty.mk k3 n3 ks3)) [.int .i64 k3, .string n3, .slice aks3 ks3.length cks3] → RdS W (Ty.d (Ty.mk k4 n4 ks4)) [.int .i64 k4, .string n4, .slice aks4 ks4.length cks4] → Calls Try.prog F #[.agg #[.int .i64 k3, .string n3, .slice aks3 ks3.length cks3], .agg #[.int .i64 k4, .string n4, .slice aks4 ks4.length cks4]] W fun e w' => e = .returned (.bool (p (Ty.mk k3 n3 ks3) (Ty.mk k4 n4 ks4))) ∧ Below W.heap.size W w') :
    Calls Try.prog 119 #[.slice a ts.length cap, .slice a' us.length cap', .func (.func F) #[] #[]] w fun e w' => e = .returned (.bool (eqBy p ts us)) ∧ Below w.heap.size w w' := by
  obtain ⟨_, _, e, h2, h3, h4⟩ := hr.eTy
  simp only [Value.slice.injEq, true_and] at e
  obtain ⟨rfl, rfl⟩ := e
  obtain ⟨_, _, e, h2', h3', h4'⟩ := hr'.eTy
  simp only [Value.slice.injEq, true_and] at e
  obtain ⟨rfl, rfl⟩ := e
  have HC0 := hid hc
  have H4 := hid h4
  have H4' := hid h4'
  clear hc hr h4 hr' h4'
  by_cases hl : ts.length = us.length
  case pos =>
    have hlb : ((ts.length : Int) != (us.length : Int)) = false := by simp [hl]
    have HL := hid hl
    clear hl
    go_enter Try.func119, Try.ntmps119
    go_wp2_with fail
    go_loopw [7, 8, 9, 17] (fun _ _ _ i wr => ∃ (j : Nat), j ≤ ts.length ∧ i = .int .i64 j ∧ Hid (∀ (i : Nat) t u, i < j → ts[i]? = some t → us[i]? = some u → p t u = true) ∧ Below w.heap.size w wr) (fun _ _ _ i _ => ts.length - (intOf i).toNat)
    case atStart => exact ⟨0, by omega, rfl, fun i t u hi => absurd hi (by omega), Below.refl _ _⟩
    case round =>
      obtain ⟨j, hj, rfl, HJ, hb⟩ := hrel
      by_cases hlt : j < ts.length
      case pos =>
        have x0 := hb.size
        have hlt' : j < us.length := by have := HL.out; omega
        obtain ⟨b, o, rfl, hbl, hall⟩ := H4.out (by omega)
        obtain ⟨b', o', rfl, hbl', hall'⟩ := H4'.out (by omega)
        obtain ⟨t, ht⟩ : ∃ t, ts[j]? = some t := ⟨_, List.getElem?_eq_getElem hlt⟩
        obtain ⟨t', ht'⟩ : ∃ t, us[j]? = some t := ⟨_, List.getElem?_eq_getElem hlt'⟩
        obtain ⟨k3, n3, ks3⟩ := t
        obtain ⟨k4, n4, ks4⟩ := t'
        obtain ⟨aks3, cks3, q_0, q_1, q_2, hrk⟩ := hall j k3 n3 ks3 ht
        obtain ⟨aks4, cks4, p_0, p_1, p_2, hrk'⟩ := hall' j k4 n4 ks4 ht'
        clear hall H4 hall' H4'
        have dq0 := (hb.cell (p := ⟨b, o + j * 3, none⟩) hbl).trans q_0
        have dq1 := (hb.cell (p := ⟨b, o + j * 3 + 1, none⟩) hbl).trans q_1
        have dq2 := (hb.cell (p := ⟨b, o + j * 3 + 2, none⟩) hbl).trans q_2
        have dp0 := (hb.cell (p := ⟨b', o' + j * 3, none⟩) hbl').trans p_0
        have dp1 := (hb.cell (p := ⟨b', o' + j * 3 + 1, none⟩) hbl').trans p_1
        have dp2 := (hb.cell (p := ⟨b', o' + j * 3 + 2, none⟩) hbl').trans p_2
        have x1 : b < wr.heap.size := Nat.lt_of_lt_of_le hbl hb.size
        have x2 : b' < wr.heap.size := Nat.lt_of_lt_of_le hbl' hb.size
        have hcc := fun W hW => HC0.out k3 n3 ks3 aks3 cks3 k4 n4 ks4 aks4 cks4 j W ht ht' (hb.trans (Below.mono hW hb.size)) ((hrk.below hb).below hW) ((hrk'.below hb).below hW)
        have HT := hid ht
        have HT' := hid ht'
        have HC := hid hcc
        clear ht hrk hrk' q_0 q_1 q_2 p_0 p_1 p_2 hcc ht' HC0
        cases hq : p (Ty.mk k3 n3 ks3) (Ty.mk k4 n4 ks4)
        · rw [hq] at HC
          have HQ := hid hq
          clear hq
          go_wp2_with fail
          refine (HC.out _ (((Below.refl _ _).alloc (Nat.le_refl _) _).alloc (by simp) _)).mono ?_
          rintro e w1 ⟨rfl, hb1⟩
          have hbw : Below w.heap.size w w1 := ((hb.alloc hb.size _).alloc (by have := hb.size; simp; omega) _).trans (hb1.mono (by have := hb.size; simp; omega))
          go_wp2_with fail
          go_ret
          exact ⟨ret_bool (eqBy_no p ts us j _ _ HT.out HT'.out HQ.out).symm, hbw⟩
        · rw [hq] at HC
          have HQ := hid hq
          clear hq
          go_wp2_with fail
          refine (HC.out _ (((Below.refl _ _).alloc (Nat.le_refl _) _).alloc (by simp) _)).mono ?_
          rintro e w1 ⟨rfl, hb1⟩
          have hbw : Below w.heap.size w w1 := ((hb.alloc hb.size _).alloc (by have := hb.size; simp; omega) _).trans (hb1.mono (by have := hb.size; simp; omega))
          clear hb1
          go_wp2_with fail
          go_roundw
          case rel =>
            refine ⟨j + 1, by omega, by go_num, fun i t u hi h1 h2 => ?_, hbw⟩
            rcases Nat.lt_succ_iff_lt_or_eq.1 hi with hi | rfl
            · exact HJ.out i t u hi h1 h2
            · obtain rfl := Option.some.inj (h1.symm.trans HT.out)
              obtain rfl := Option.some.inj (h2.symm.trans HT'.out)
              exact HQ.out
          case measure => simp [intOf]; omega
      case neg =>
        go_wp2_with fail
        go_ret
        exact ⟨ret_bool (eqBy_yes p ts us HL.out (fun i t u h1 h2 => HJ.out i t u (by have := (List.getElem?_eq_some_iff.1 h1).1; omega) h1 h2)).symm, hb⟩
  case neg =>
    have hlb : ((ts.length : Int) != (us.length : Int)) = true := by simp; omega
    rw [eqBy_len p ts us hl]
    clear hl HC0 H4 H4' eF
    go_enter Try.func119, Try.ntmps119
    go_wp2_with fail
    go_ret
    exact ⟨rfl, Below.refl _ _⟩

set_option maxRecDepth 100000 in
set_option maxHeartbeats 1000000 in
theorem equalFunc_Con (F : FuncId) (eF : ∀ args (w : World), (callFunc F args).run Try.prog w = .ok (.enter F args) w) (p : Con → Con → Bool) (ts : List Con) (us : List Con) (a a' : Option Addr) (cap cap' : Nat) (w : World)
    (hr : RdL w (Con.ds ts) (.slice a ts.length cap)) (hr' : RdL w (Con.ds us) (.slice a' us.length cap'))
    (hc : ∀ (n3 : ByteArray) (fs3 : List Ty) (afs3 : Option Addr) (cfs3 : Nat) (n4 : ByteArray) (fs4 : List Ty) (afs4 : Option Addr) (cfs4 : Nat) (j : Nat) (W : World), ts[j]? = some (Con.mk n3 fs3) → us[j]? = some (Con.mk n4 fs4) → Below w.heap.size w W → RdS W (Con.d (Con.mk n3 fs3)) [.string n3, .slice afs3 fs3.length cfs3] → RdS W (Con.d (Con.mk n4 fs4)) [.string n4, .slice afs4 fs4.length cfs4] → Calls Try.prog F #[.agg #[.string n3, .slice afs3 fs3.length cfs3], .agg #[.string n4, .slice afs4 fs4.length cfs4]] W fun e w' => e = .returned (.bool (p (Con.mk n3 fs3) (Con.mk n4 fs4))) ∧ Below W.heap.size W w') :
    Calls Try.prog 117 #[.slice a ts.length cap, .slice a' us.length cap', .func (.func F) #[] #[]] w fun e w' => e = .returned (.bool (eqBy p ts us)) ∧ Below w.heap.size w w' := by
  obtain ⟨_, _, e, h2, h3, h4⟩ := hr.eCon
  simp only [Value.slice.injEq, true_and] at e
  obtain ⟨rfl, rfl⟩ := e
  obtain ⟨_, _, e, h2', h3', h4'⟩ := hr'.eCon
  simp only [Value.slice.injEq, true_and] at e
  obtain ⟨rfl, rfl⟩ := e
  have HC0 := hid hc
  have H4 := hid h4
  have H4' := hid h4'
  clear hc hr h4 hr' h4'
  by_cases hl : ts.length = us.length
  case pos =>
    have hlb : ((ts.length : Int) != (us.length : Int)) = false := by simp [hl]
    have HL := hid hl
    clear hl
    go_enter Try.func117, Try.ntmps117
    go_wp2_with fail
    go_loopw [7, 8, 9, 17] (fun _ _ _ i wr => ∃ (j : Nat), j ≤ ts.length ∧ i = .int .i64 j ∧ Hid (∀ (i : Nat) t u, i < j → ts[i]? = some t → us[i]? = some u → p t u = true) ∧ Below w.heap.size w wr) (fun _ _ _ i _ => ts.length - (intOf i).toNat)
    case atStart => exact ⟨0, by omega, rfl, fun i t u hi => absurd hi (by omega), Below.refl _ _⟩
    case round =>
      obtain ⟨j, hj, rfl, HJ, hb⟩ := hrel
      by_cases hlt : j < ts.length
      case pos =>
        have x0 := hb.size
        have hlt' : j < us.length := by have := HL.out; omega
        obtain ⟨b, o, rfl, hbl, hall⟩ := H4.out (by omega)
        obtain ⟨b', o', rfl, hbl', hall'⟩ := H4'.out (by omega)
        obtain ⟨t, ht⟩ : ∃ t, ts[j]? = some t := ⟨_, List.getElem?_eq_getElem hlt⟩
        obtain ⟨t', ht'⟩ : ∃ t, us[j]? = some t := ⟨_, List.getElem?_eq_getElem hlt'⟩
        obtain ⟨n3, fs3⟩ := t
        obtain ⟨n4, fs4⟩ := t'
        obtain ⟨afs3, cfs3, q_0, q_1, hrk⟩ := hall j n3 fs3 ht
        obtain ⟨afs4, cfs4, p_0, p_1, hrk'⟩ := hall' j n4 fs4 ht'
        clear hall H4 hall' H4'
        have dq0 := (hb.cell (p := ⟨b, o + j * 2, none⟩) hbl).trans q_0
        have dq1 := (hb.cell (p := ⟨b, o + j * 2 + 1, none⟩) hbl).trans q_1
        have dp0 := (hb.cell (p := ⟨b', o' + j * 2, none⟩) hbl').trans p_0
        have dp1 := (hb.cell (p := ⟨b', o' + j * 2 + 1, none⟩) hbl').trans p_1
        have x1 : b < wr.heap.size := Nat.lt_of_lt_of_le hbl hb.size
        have x2 : b' < wr.heap.size := Nat.lt_of_lt_of_le hbl' hb.size
        have hcc := fun W hW => HC0.out n3 fs3 afs3 cfs3 n4 fs4 afs4 cfs4 j W ht ht' (hb.trans (Below.mono hW hb.size)) ((hrk.below hb).below hW) ((hrk'.below hb).below hW)
        have HT := hid ht
        have HT' := hid ht'
        have HC := hid hcc
        clear ht hrk hrk' q_0 q_1 p_0 p_1 hcc ht' HC0
        cases hq : p (Con.mk n3 fs3) (Con.mk n4 fs4)
        · rw [hq] at HC
          have HQ := hid hq
          clear hq
          go_wp2_with fail
          refine (HC.out _ (((Below.refl _ _).alloc (Nat.le_refl _) _).alloc (by simp) _)).mono ?_
          rintro e w1 ⟨rfl, hb1⟩
          have hbw : Below w.heap.size w w1 := ((hb.alloc hb.size _).alloc (by have := hb.size; simp; omega) _).trans (hb1.mono (by have := hb.size; simp; omega))
          go_wp2_with fail
          go_ret
          exact ⟨ret_bool (eqBy_no p ts us j _ _ HT.out HT'.out HQ.out).symm, hbw⟩
        · rw [hq] at HC
          have HQ := hid hq
          clear hq
          go_wp2_with fail
          refine (HC.out _ (((Below.refl _ _).alloc (Nat.le_refl _) _).alloc (by simp) _)).mono ?_
          rintro e w1 ⟨rfl, hb1⟩
          have hbw : Below w.heap.size w w1 := ((hb.alloc hb.size _).alloc (by have := hb.size; simp; omega) _).trans (hb1.mono (by have := hb.size; simp; omega))
          clear hb1
          go_wp2_with fail
          go_roundw
          case rel =>
            refine ⟨j + 1, by omega, by go_num, fun i t u hi h1 h2 => ?_, hbw⟩
            rcases Nat.lt_succ_iff_lt_or_eq.1 hi with hi | rfl
            · exact HJ.out i t u hi h1 h2
            · obtain rfl := Option.some.inj (h1.symm.trans HT.out)
              obtain rfl := Option.some.inj (h2.symm.trans HT'.out)
              exact HQ.out
          case measure => simp [intOf]; omega
      case neg =>
        go_wp2_with fail
        go_ret
        exact ⟨ret_bool (eqBy_yes p ts us HL.out (fun i t u h1 h2 => HJ.out i t u (by have := (List.getElem?_eq_some_iff.1 h1).1; omega) h1 h2)).symm, hb⟩
  case neg =>
    have hlb : ((ts.length : Int) != (us.length : Int)) = true := by simp; omega
    rw [eqBy_len p ts us hl]
    clear hl HC0 H4 H4' eF
    go_enter Try.func117, Try.ntmps117
    go_wp2_with fail
    go_ret
    exact ⟨rfl, Below.refl _ _⟩

set_option maxRecDepth 100000 in
set_option maxHeartbeats 1000000 in
theorem equalFunc_Dat (F : FuncId) (eF : ∀ args (w : World), (callFunc F args).run Try.prog w = .ok (.enter F args) w) (p : Dat → Dat → Bool) (ts : List Dat) (us : List Dat) (a a' : Option Addr) (cap cap' : Nat) (w : World)
    (hr : RdL w (Dat.ds ts) (.slice a ts.length cap)) (hr' : RdL w (Dat.ds us) (.slice a' us.length cap'))
    (hc : ∀ (n3 : ByteArray) (qs3 : List Con) (aqs3 : Option Addr) (cqs3 : Nat) (n4 : ByteArray) (qs4 : List Con) (aqs4 : Option Addr) (cqs4 : Nat) (j : Nat) (W : World), ts[j]? = some (Dat.mk n3 qs3) → us[j]? = some (Dat.mk n4 qs4) → Below w.heap.size w W → RdS W (Dat.d (Dat.mk n3 qs3)) [.string n3, .slice aqs3 qs3.length cqs3] → RdS W (Dat.d (Dat.mk n4 qs4)) [.string n4, .slice aqs4 qs4.length cqs4] → Calls Try.prog F #[.agg #[.string n3, .slice aqs3 qs3.length cqs3], .agg #[.string n4, .slice aqs4 qs4.length cqs4]] W fun e w' => e = .returned (.bool (p (Dat.mk n3 qs3) (Dat.mk n4 qs4))) ∧ Below W.heap.size W w') :
    Calls Try.prog 77 #[.slice a ts.length cap, .slice a' us.length cap', .func (.func F) #[] #[]] w fun e w' => e = .returned (.bool (eqBy p ts us)) ∧ Below w.heap.size w w' := by
  obtain ⟨_, _, e, h2, h3, h4⟩ := hr.eDat
  simp only [Value.slice.injEq, true_and] at e
  obtain ⟨rfl, rfl⟩ := e
  obtain ⟨_, _, e, h2', h3', h4'⟩ := hr'.eDat
  simp only [Value.slice.injEq, true_and] at e
  obtain ⟨rfl, rfl⟩ := e
  have HC0 := hid hc
  have H4 := hid h4
  have H4' := hid h4'
  clear hc hr h4 hr' h4'
  by_cases hl : ts.length = us.length
  case pos =>
    have hlb : ((ts.length : Int) != (us.length : Int)) = false := by simp [hl]
    have HL := hid hl
    clear hl
    go_enter Try.func77, Try.ntmps77
    go_wp2_with fail
    go_loopw [7, 8, 9, 17] (fun _ _ _ i wr => ∃ (j : Nat), j ≤ ts.length ∧ i = .int .i64 j ∧ Hid (∀ (i : Nat) t u, i < j → ts[i]? = some t → us[i]? = some u → p t u = true) ∧ Below w.heap.size w wr) (fun _ _ _ i _ => ts.length - (intOf i).toNat)
    case atStart => exact ⟨0, by omega, rfl, fun i t u hi => absurd hi (by omega), Below.refl _ _⟩
    case round =>
      obtain ⟨j, hj, rfl, HJ, hb⟩ := hrel
      by_cases hlt : j < ts.length
      case pos =>
        have x0 := hb.size
        have hlt' : j < us.length := by have := HL.out; omega
        obtain ⟨b, o, rfl, hbl, hall⟩ := H4.out (by omega)
        obtain ⟨b', o', rfl, hbl', hall'⟩ := H4'.out (by omega)
        obtain ⟨t, ht⟩ : ∃ t, ts[j]? = some t := ⟨_, List.getElem?_eq_getElem hlt⟩
        obtain ⟨t', ht'⟩ : ∃ t, us[j]? = some t := ⟨_, List.getElem?_eq_getElem hlt'⟩
        obtain ⟨n3, qs3⟩ := t
        obtain ⟨n4, qs4⟩ := t'
        obtain ⟨aqs3, cqs3, q_0, q_1, hrk⟩ := hall j n3 qs3 ht
        obtain ⟨aqs4, cqs4, p_0, p_1, hrk'⟩ := hall' j n4 qs4 ht'
        clear hall H4 hall' H4'
        have dq0 := (hb.cell (p := ⟨b, o + j * 2, none⟩) hbl).trans q_0
        have dq1 := (hb.cell (p := ⟨b, o + j * 2 + 1, none⟩) hbl).trans q_1
        have dp0 := (hb.cell (p := ⟨b', o' + j * 2, none⟩) hbl').trans p_0
        have dp1 := (hb.cell (p := ⟨b', o' + j * 2 + 1, none⟩) hbl').trans p_1
        have x1 : b < wr.heap.size := Nat.lt_of_lt_of_le hbl hb.size
        have x2 : b' < wr.heap.size := Nat.lt_of_lt_of_le hbl' hb.size
        have hcc := fun W hW => HC0.out n3 qs3 aqs3 cqs3 n4 qs4 aqs4 cqs4 j W ht ht' (hb.trans (Below.mono hW hb.size)) ((hrk.below hb).below hW) ((hrk'.below hb).below hW)
        have HT := hid ht
        have HT' := hid ht'
        have HC := hid hcc
        clear ht hrk hrk' q_0 q_1 p_0 p_1 hcc ht' HC0
        cases hq : p (Dat.mk n3 qs3) (Dat.mk n4 qs4)
        · rw [hq] at HC
          have HQ := hid hq
          clear hq
          go_wp2_with fail
          refine (HC.out _ (((Below.refl _ _).alloc (Nat.le_refl _) _).alloc (by simp) _)).mono ?_
          rintro e w1 ⟨rfl, hb1⟩
          have hbw : Below w.heap.size w w1 := ((hb.alloc hb.size _).alloc (by have := hb.size; simp; omega) _).trans (hb1.mono (by have := hb.size; simp; omega))
          go_wp2_with fail
          go_ret
          exact ⟨ret_bool (eqBy_no p ts us j _ _ HT.out HT'.out HQ.out).symm, hbw⟩
        · rw [hq] at HC
          have HQ := hid hq
          clear hq
          go_wp2_with fail
          refine (HC.out _ (((Below.refl _ _).alloc (Nat.le_refl _) _).alloc (by simp) _)).mono ?_
          rintro e w1 ⟨rfl, hb1⟩
          have hbw : Below w.heap.size w w1 := ((hb.alloc hb.size _).alloc (by have := hb.size; simp; omega) _).trans (hb1.mono (by have := hb.size; simp; omega))
          clear hb1
          go_wp2_with fail
          go_roundw
          case rel =>
            refine ⟨j + 1, by omega, by go_num, fun i t u hi h1 h2 => ?_, hbw⟩
            rcases Nat.lt_succ_iff_lt_or_eq.1 hi with hi | rfl
            · exact HJ.out i t u hi h1 h2
            · obtain rfl := Option.some.inj (h1.symm.trans HT.out)
              obtain rfl := Option.some.inj (h2.symm.trans HT'.out)
              exact HQ.out
          case measure => simp [intOf]; omega
      case neg =>
        go_wp2_with fail
        go_ret
        exact ⟨ret_bool (eqBy_yes p ts us HL.out (fun i t u h1 h2 => HJ.out i t u (by have := (List.getElem?_eq_some_iff.1 h1).1; omega) h1 h2)).symm, hb⟩
  case neg =>
    have hlb : ((ts.length : Int) != (us.length : Int)) = true := by simp; omega
    rw [eqBy_len p ts us hl]
    clear hl HC0 H4 H4' eF
    go_enter Try.func77, Try.ntmps77
    go_wp2_with fail
    go_ret
    exact ⟨rfl, Below.refl _ _⟩

set_option maxRecDepth 100000 in
set_option maxHeartbeats 1000000 in
theorem equalFunc_Df (F : FuncId) (eF : ∀ args (w : World), (callFunc F args).run Try.prog w = .ok (.enter F args) w) (p : Df → Df → Bool) (ts : List Df) (us : List Df) (a a' : Option Addr) (cap cap' : Nat) (w : World)
    (hr : RdL w (Df.ds ts) (.slice a ts.length cap)) (hr' : RdL w (Df.ds us) (.slice a' us.length cap'))
    (hc : ∀ (n3 : ByteArray) (tk3 : Int) (tn3 : ByteArray) (tks3 : List Ty) (bk3 : Int) (bu3 : Int) (bn3 : ByteArray) (btk3 : Int) (btn3 : ByteArray) (btks3 : List Ty) (bns3 : List ByteArray) (bks3 : List Tm) (atks3 : Option Addr) (ctks3 : Nat) (abtks3 : Option Addr) (cbtks3 : Nat) (abns3 : Option Addr) (cbns3 : Nat) (abks3 : Option Addr) (cbks3 : Nat) (n4 : ByteArray) (tk4 : Int) (tn4 : ByteArray) (tks4 : List Ty) (bk4 : Int) (bu4 : Int) (bn4 : ByteArray) (btk4 : Int) (btn4 : ByteArray) (btks4 : List Ty) (bns4 : List ByteArray) (bks4 : List Tm) (atks4 : Option Addr) (ctks4 : Nat) (abtks4 : Option Addr) (cbtks4 : Nat) (abns4 : Option Addr) (cbns4 : Nat) (abks4 : Option Addr) (cbks4 : Nat) (j : Nat) (W : World), ts[j]? = some (Df.mk n3 (Ty.mk tk3 tn3 tks3) (Tm.mk bk3 bu3 bn3 (Ty.mk btk3 btn3 btks3) bns3 bks3)) → us[j]? = some (Df.mk n4 (Ty.mk tk4 tn4 tks4) (Tm.mk bk4 bu4 bn4 (Ty.mk btk4 btn4 btks4) bns4 bks4)) → Below w.heap.size w W → RdS W (Df.d (Df.mk n3 (Ty.mk tk3 tn3 tks3) (Tm.mk bk3 bu3 bn3 (Ty.mk btk3 btn3 btks3) bns3 bks3))) [.string n3, .int .i64 tk3, .string tn3, .slice atks3 tks3.length ctks3, .int .i64 bk3, .int .i64 bu3, .string bn3, .int .i64 btk3, .string btn3, .slice abtks3 btks3.length cbtks3, .slice abns3 bns3.length cbns3, .slice abks3 bks3.length cbks3] → RdS W (Df.d (Df.mk n4 (Ty.mk tk4 tn4 tks4) (Tm.mk bk4 bu4 bn4 (Ty.mk btk4 btn4 btks4) bns4 bks4))) [.string n4, .int .i64 tk4, .string tn4, .slice atks4 tks4.length ctks4, .int .i64 bk4, .int .i64 bu4, .string bn4, .int .i64 btk4, .string btn4, .slice abtks4 btks4.length cbtks4, .slice abns4 bns4.length cbns4, .slice abks4 bks4.length cbks4] → Calls Try.prog F #[.agg #[.string n3, .int .i64 tk3, .string tn3, .slice atks3 tks3.length ctks3, .int .i64 bk3, .int .i64 bu3, .string bn3, .int .i64 btk3, .string btn3, .slice abtks3 btks3.length cbtks3, .slice abns3 bns3.length cbns3, .slice abks3 bks3.length cbks3], .agg #[.string n4, .int .i64 tk4, .string tn4, .slice atks4 tks4.length ctks4, .int .i64 bk4, .int .i64 bu4, .string bn4, .int .i64 btk4, .string btn4, .slice abtks4 btks4.length cbtks4, .slice abns4 bns4.length cbns4, .slice abks4 bks4.length cbks4]] W fun e w' => e = .returned (.bool (p (Df.mk n3 (Ty.mk tk3 tn3 tks3) (Tm.mk bk3 bu3 bn3 (Ty.mk btk3 btn3 btks3) bns3 bks3)) (Df.mk n4 (Ty.mk tk4 tn4 tks4) (Tm.mk bk4 bu4 bn4 (Ty.mk btk4 btn4 btks4) bns4 bks4)))) ∧ Below W.heap.size W w') :
    Calls Try.prog 79 #[.slice a ts.length cap, .slice a' us.length cap', .func (.func F) #[] #[]] w fun e w' => e = .returned (.bool (eqBy p ts us)) ∧ Below w.heap.size w w' := by
  obtain ⟨_, _, e, h2, h3, h4⟩ := hr.eDf
  simp only [Value.slice.injEq, true_and] at e
  obtain ⟨rfl, rfl⟩ := e
  obtain ⟨_, _, e, h2', h3', h4'⟩ := hr'.eDf
  simp only [Value.slice.injEq, true_and] at e
  obtain ⟨rfl, rfl⟩ := e
  have HC0 := hid hc
  have H4 := hid h4
  have H4' := hid h4'
  clear hc hr h4 hr' h4'
  by_cases hl : ts.length = us.length
  case pos =>
    have hlb : ((ts.length : Int) != (us.length : Int)) = false := by simp [hl]
    have HL := hid hl
    clear hl
    go_enter Try.func79, Try.ntmps79
    go_wp2_with fail
    go_loopw [7, 8, 9, 17] (fun _ _ _ i wr => ∃ (j : Nat), j ≤ ts.length ∧ i = .int .i64 j ∧ Hid (∀ (i : Nat) t u, i < j → ts[i]? = some t → us[i]? = some u → p t u = true) ∧ Below w.heap.size w wr) (fun _ _ _ i _ => ts.length - (intOf i).toNat)
    case atStart => exact ⟨0, by omega, rfl, fun i t u hi => absurd hi (by omega), Below.refl _ _⟩
    case round =>
      obtain ⟨j, hj, rfl, HJ, hb⟩ := hrel
      by_cases hlt : j < ts.length
      case pos =>
        have x0 := hb.size
        have hlt' : j < us.length := by have := HL.out; omega
        obtain ⟨b, o, rfl, hbl, hall⟩ := H4.out (by omega)
        obtain ⟨b', o', rfl, hbl', hall'⟩ := H4'.out (by omega)
        obtain ⟨t, ht⟩ : ∃ t, ts[j]? = some t := ⟨_, List.getElem?_eq_getElem hlt⟩
        obtain ⟨t', ht'⟩ : ∃ t, us[j]? = some t := ⟨_, List.getElem?_eq_getElem hlt'⟩
        obtain ⟨n3, ⟨tk3, tn3, tks3⟩, ⟨bk3, bu3, bn3, ⟨btk3, btn3, btks3⟩, bns3, bks3⟩⟩ := t
        obtain ⟨n4, ⟨tk4, tn4, tks4⟩, ⟨bk4, bu4, bn4, ⟨btk4, btn4, btks4⟩, bns4, bks4⟩⟩ := t'
        obtain ⟨atks3, ctks3, abtks3, cbtks3, abns3, cbns3, abks3, cbks3, q_0, q_1, q_2, q_3, q_4, q_5, q_6, q_7, q_8, q_9, q_10, q_11, hrk⟩ := hall j n3 tk3 tn3 tks3 bk3 bu3 bn3 btk3 btn3 btks3 bns3 bks3 ht
        obtain ⟨atks4, ctks4, abtks4, cbtks4, abns4, cbns4, abks4, cbks4, p_0, p_1, p_2, p_3, p_4, p_5, p_6, p_7, p_8, p_9, p_10, p_11, hrk'⟩ := hall' j n4 tk4 tn4 tks4 bk4 bu4 bn4 btk4 btn4 btks4 bns4 bks4 ht'
        clear hall H4 hall' H4'
        have dq0 := (hb.cell (p := ⟨b, o + j * 12, none⟩) hbl).trans q_0
        have dq1 := (hb.cell (p := ⟨b, o + j * 12 + 1, none⟩) hbl).trans q_1
        have dq2 := (hb.cell (p := ⟨b, o + j * 12 + 2, none⟩) hbl).trans q_2
        have dq3 := (hb.cell (p := ⟨b, o + j * 12 + 3, none⟩) hbl).trans q_3
        have dq4 := (hb.cell (p := ⟨b, o + j * 12 + 4, none⟩) hbl).trans q_4
        have dq5 := (hb.cell (p := ⟨b, o + j * 12 + 5, none⟩) hbl).trans q_5
        have dq6 := (hb.cell (p := ⟨b, o + j * 12 + 6, none⟩) hbl).trans q_6
        have dq7 := (hb.cell (p := ⟨b, o + j * 12 + 7, none⟩) hbl).trans q_7
        have dq8 := (hb.cell (p := ⟨b, o + j * 12 + 8, none⟩) hbl).trans q_8
        have dq9 := (hb.cell (p := ⟨b, o + j * 12 + 9, none⟩) hbl).trans q_9
        have dq10 := (hb.cell (p := ⟨b, o + j * 12 + 10, none⟩) hbl).trans q_10
        have dq11 := (hb.cell (p := ⟨b, o + j * 12 + 11, none⟩) hbl).trans q_11
        have dp0 := (hb.cell (p := ⟨b', o' + j * 12, none⟩) hbl').trans p_0
        have dp1 := (hb.cell (p := ⟨b', o' + j * 12 + 1, none⟩) hbl').trans p_1
        have dp2 := (hb.cell (p := ⟨b', o' + j * 12 + 2, none⟩) hbl').trans p_2
        have dp3 := (hb.cell (p := ⟨b', o' + j * 12 + 3, none⟩) hbl').trans p_3
        have dp4 := (hb.cell (p := ⟨b', o' + j * 12 + 4, none⟩) hbl').trans p_4
        have dp5 := (hb.cell (p := ⟨b', o' + j * 12 + 5, none⟩) hbl').trans p_5
        have dp6 := (hb.cell (p := ⟨b', o' + j * 12 + 6, none⟩) hbl').trans p_6
        have dp7 := (hb.cell (p := ⟨b', o' + j * 12 + 7, none⟩) hbl').trans p_7
        have dp8 := (hb.cell (p := ⟨b', o' + j * 12 + 8, none⟩) hbl').trans p_8
        have dp9 := (hb.cell (p := ⟨b', o' + j * 12 + 9, none⟩) hbl').trans p_9
        have dp10 := (hb.cell (p := ⟨b', o' + j * 12 + 10, none⟩) hbl').trans p_10
        have dp11 := (hb.cell (p := ⟨b', o' + j * 12 + 11, none⟩) hbl').trans p_11
        have x1 : b < wr.heap.size := Nat.lt_of_lt_of_le hbl hb.size
        have x2 : b' < wr.heap.size := Nat.lt_of_lt_of_le hbl' hb.size
        have hcc := fun W hW => HC0.out n3 tk3 tn3 tks3 bk3 bu3 bn3 btk3 btn3 btks3 bns3 bks3 atks3 ctks3 abtks3 cbtks3 abns3 cbns3 abks3 cbks3 n4 tk4 tn4 tks4 bk4 bu4 bn4 btk4 btn4 btks4 bns4 bks4 atks4 ctks4 abtks4 cbtks4 abns4 cbns4 abks4 cbks4 j W ht ht' (hb.trans (Below.mono hW hb.size)) ((hrk.below hb).below hW) ((hrk'.below hb).below hW)
        have HT := hid ht
        have HT' := hid ht'
        have HC := hid hcc
        clear ht hrk hrk' q_0 q_1 q_2 q_3 q_4 q_5 q_6 q_7 q_8 q_9 q_10 q_11 p_0 p_1 p_2 p_3 p_4 p_5 p_6 p_7 p_8 p_9 p_10 p_11 hcc ht' HC0
        cases hq : p (Df.mk n3 (Ty.mk tk3 tn3 tks3) (Tm.mk bk3 bu3 bn3 (Ty.mk btk3 btn3 btks3) bns3 bks3)) (Df.mk n4 (Ty.mk tk4 tn4 tks4) (Tm.mk bk4 bu4 bn4 (Ty.mk btk4 btn4 btks4) bns4 bks4))
        · rw [hq] at HC
          have HQ := hid hq
          clear hq
          go_wp2_with fail
          refine (HC.out _ (((Below.refl _ _).alloc (Nat.le_refl _) _).alloc (by simp) _)).mono ?_
          rintro e w1 ⟨rfl, hb1⟩
          have hbw : Below w.heap.size w w1 := ((hb.alloc hb.size _).alloc (by have := hb.size; simp; omega) _).trans (hb1.mono (by have := hb.size; simp; omega))
          go_wp2_with fail
          go_ret
          exact ⟨ret_bool (eqBy_no p ts us j _ _ HT.out HT'.out HQ.out).symm, hbw⟩
        · rw [hq] at HC
          have HQ := hid hq
          clear hq
          go_wp2_with fail
          refine (HC.out _ (((Below.refl _ _).alloc (Nat.le_refl _) _).alloc (by simp) _)).mono ?_
          rintro e w1 ⟨rfl, hb1⟩
          have hbw : Below w.heap.size w w1 := ((hb.alloc hb.size _).alloc (by have := hb.size; simp; omega) _).trans (hb1.mono (by have := hb.size; simp; omega))
          clear hb1
          go_wp2_with fail
          go_roundw
          case rel =>
            refine ⟨j + 1, by omega, by go_num, fun i t u hi h1 h2 => ?_, hbw⟩
            rcases Nat.lt_succ_iff_lt_or_eq.1 hi with hi | rfl
            · exact HJ.out i t u hi h1 h2
            · obtain rfl := Option.some.inj (h1.symm.trans HT.out)
              obtain rfl := Option.some.inj (h2.symm.trans HT'.out)
              exact HQ.out
          case measure => simp [intOf]; omega
      case neg =>
        go_wp2_with fail
        go_ret
        exact ⟨ret_bool (eqBy_yes p ts us HL.out (fun i t u h1 h2 => HJ.out i t u (by have := (List.getElem?_eq_some_iff.1 h1).1; omega) h1 h2)).symm, hb⟩
  case neg =>
    have hlb : ((ts.length : Int) != (us.length : Int)) = true := by simp; omega
    rw [eqBy_len p ts us hl]
    clear hl HC0 H4 H4' eF
    go_enter Try.func79, Try.ntmps79
    go_wp2_with fail
    go_ret
    exact ⟨rfl, Below.refl _ _⟩

end Go.Proofs.Ytdcifcfkjhpokaa
