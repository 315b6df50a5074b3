/- Walks: whether a core has neither boxes nor lets, in the program. -/
import Derived.Test.YtlbebnmhldolnaaCoErase
namespace Go.Proofs.Ytlbebnmhldolnaa
open Go.ChangeShapes Go.WideShapes Go.ChangeAt Go.RowKit
set_option linter.unusedVariables false

theorem impl_isBox (k1 : Int) (v1 : Int) (ds1 : List Int) (ks1 : List Co) (ads1 : Option Addr) (cds1 : Nat) (aks1 : Option Addr) (cks1 : Nat) (w : World) : Calls Try.prog 118 #[.agg #[.int .i64 k1, .int .i64 v1, .slice ads1 ds1.length cds1, .slice aks1 ks1.length cks1]] w fun e w' => e = .returned (.bool (decide (k1 = 6) || decide (k1 = 7))) ∧ Below w.heap.size w w' := by
  have HB := hid ((Below.refl w.heap.size w).alloc (Nat.le_refl _) (.cells #[.int .i64 k1, .int .i64 v1, .slice ads1 ds1.length cds1, .slice aks1 ks1.length cks1] 35))
  by_cases h6 : k1 = 6
  case pos =>
    subst h6
    go_enter Try.func118, Try.ntmps118
    go_wp2_with fail
    go_ret
    exact ⟨rfl, HB.out⟩
  case neg =>
  by_cases h7 : k1 = 7
  case pos =>
    subst h7
    go_enter Try.func118, Try.ntmps118
    go_wp2_with fail
    go_ret
    exact ⟨rfl, HB.out⟩
  case neg =>
    have g6 : (k1 == 6) = false := by simp [h6]
    have g7 : (k1 == 7) = false := by simp [h7]
    have hf : (decide (k1 = 6) || decide (k1 = 7)) = false := by simp [h6, h7]
    rw [hf]
    clear h6 h7 hf
    go_enter Try.func118, Try.ntmps118
    go_wp2_with fail
    go_ret
    exact ⟨rfl, HB.out⟩

def AnyW (N : Nat) : Prop := ∀ (k1 : Int) (v1 : Int) (ds1 : List Int) (ks1 : List Co) (ads1 : Option Addr) (cds1 : Nat) (aks1 : Option Addr) (cks1 : Nat) (w : World), Co.bulk (Co.mk k1 v1 ds1 ks1) < N → RdS w (Co.d (Co.mk k1 v1 ds1 ks1)) [.int .i64 k1, .int .i64 v1, .slice ads1 ds1.length cds1, .slice aks1 ks1.length cks1] →
  Calls Try.prog 117 #[.agg #[.int .i64 k1, .int .i64 v1, .slice ads1 ds1.length cds1, .slice aks1 ks1.length cks1], .func (.func 118) #[] #[]] w fun e w' => e = .returned (.bool (!Co.era (Co.mk k1 v1 ds1 ks1))) ∧ Below w.heap.size w w'
theorem impl_any1 (N : Nat) (ih : AnyW N) (k1 : Int) (v1 : Int) (ds1 : List Int) (ks1 : List Co) (ads1 : Option Addr) (cds1 : Nat) (aks1 : Option Addr) (cks1 : Nat) (p : Addr) (w : World) (hN : Co.bulk (Co.mk k1 v1 ds1 ks1) < N) (hp : w.cell? p = some (.func (.func 118) #[] #[])) (hr : RdS w (Co.d (Co.mk k1 v1 ds1 ks1)) [.int .i64 k1, .int .i64 v1, .slice ads1 ds1.length cds1, .slice aks1 ks1.length cks1]) :
    Calls Try.prog 132 #[.agg #[.int .i64 k1, .int .i64 v1, .slice ads1 ds1.length cds1, .slice aks1 ks1.length cks1], .pointer (some p)] w fun e w' => e = .returned (.bool (!Co.era (Co.mk k1 v1 ds1 ks1))) ∧ Below w.heap.size w w' := by
  have hB := (Below.refl w.heap.size w).alloc (Nat.le_refl _) (.cells #[.int .i64 k1, .int .i64 v1, .slice ads1 ds1.length cds1, .slice aks1 ks1.length cks1] 35)
  have HC := hid (ih k1 v1 ds1 ks1 ads1 cds1 aks1 cks1 _ hN (hr.below hB))
  have hp' := (hB.cell (p := p) (World.block_lt_of_cell? _ _ hp)).trans hp
  have HB := hid hB
  clear hB hr ih hp
  go_enter Try.func132, Try.ntmps132
  go_wp2_with fail
  refine HC.out.mono ?_
  rintro e w1 ⟨rfl, hb⟩
  have HB1 := hid (HB.out.trans (hb.mono HB.out.size))
  clear hb
  go_wp2_with fail
  go_ret
  exact ⟨rfl, HB1.out⟩
set_option maxHeartbeats 1000000 in
theorem impl_anyIndex (N : Nat) (ih : AnyW N) (ks1 : List Co) (a : Option Addr) (c : Nat) (p : Addr) (w : World) (hN : Co.bulks ks1 ≤ N) (hp : w.cell? p = some (.func (.func 118) #[] #[])) (hr : RdL w (Co.ds ks1) (.slice a ks1.length c)) :
    Calls Try.prog 115 #[.slice a ks1.length c, .func (.func 132) #[] #[.pointer (some p)]] w fun e w' => ∃ r : Int, e = .returned (.int .i64 r) ∧ (decide (0 ≤ r) = !Co.eras ks1) ∧ Below w.heap.size w w' := by
  obtain ⟨_, _, e, h2, h3, h4⟩ := hr.eCo
  simp only [Value.slice.injEq, true_and] at e
  obtain ⟨rfl, rfl⟩ := e
  have H4 := hid h4
  have HP := hid hp
  have PL := hid (World.block_lt_of_cell? _ _ hp)
  have HC1 := hid (fun (kk : Int) (vv : Int) (dd : List Int) (qq : List Co) (ad : Option Addr) (cd : Nat) (aq : Option Addr) (cq : Nat) (W : World) => impl_any1 N ih kk vv dd qq ad cd aq cq p W)
  have HN := hid hN
  clear hr h4 ih hp hN
  go_enter Try.func115, Try.ntmps115
  go_wp2_with fail
  go_loopw [5, 8] (fun _ i wr => ∃ (j : Nat), j ≤ ks1.length ∧ i = .int .i64 j ∧ Hid (∀ (i : Nat) t, i < j → ks1[i]? = some t → Co.era t = true) ∧ Below w.heap.size w wr) (fun _ i _ => ks1.length - (intOf i).toNat)
  case atStart => exact ⟨0, by omega, rfl, fun i t hi => absurd hi (by omega), Below.refl _ _⟩
  case round =>
    obtain ⟨j, hj, rfl, HJ, hb⟩ := hrel
    by_cases hlt : j < ks1.length
    case pos =>
      obtain ⟨b, o, rfl, hbl, hall⟩ := H4.out (by omega)
      obtain ⟨t, ht⟩ : ∃ t, ks1[j]? = some t := ⟨_, List.getElem?_eq_getElem hlt⟩
      obtain ⟨k3, v3, ds3, ks3⟩ := t
      obtain ⟨ads3, cds3, aks3, cks3, q0, q1, q2, q3, hrk⟩ := hall j k3 v3 ds3 ks3 ht
      clear hall H4
      have d0 := (hb.cell (p := ⟨b, o + j * 4, none⟩) hbl).trans q0
      have d1 := (hb.cell (p := ⟨b, o + j * 4 + 1, none⟩) hbl).trans q1
      have d2 := (hb.cell (p := ⟨b, o + j * 4 + 2, none⟩) hbl).trans q2
      have d3 := (hb.cell (p := ⟨b, o + j * 4 + 3, none⟩) hbl).trans q3
      have hbg := Co.bulk_get ks1 j _ ht
      have hc := HC1.out k3 v3 ds3 ks3 ads3 cds3 aks3 cks3 wr (by have := HN.out; omega) ((hb.cell PL.out).trans HP.out) (hrk.below hb)
      have HT := hid ht
      by_cases hg : Co.era (.mk k3 v3 ds3 ks3) = true
      case neg =>
        replace hg := (Bool.not_eq_true _).mp hg
        rw [hg] at hc
        have HC := hid hc
        have HG := hid hg
        clear ht hrk q0 q1 q2 q3 hc hg
        go_wp2_with fail
        refine HC.out.mono ?_
        clear HC
        rintro e w1 ⟨rfl, hb1⟩
        have hbw := hb.trans (hb1.mono hb.size)
        clear hb1
        go_wp2_with fail
        go_ret
        exact ⟨j, rfl, by rw [Co.eras_no ks1 j _ HT.out HG.out]; simp, hbw⟩
      case pos =>
        rw [hg] at hc
        have HC := hid hc
        have HG := hid hg
        clear ht hrk q0 q1 q2 q3 hc hg
        go_wp2_with fail
        refine HC.out.mono ?_
        clear HC
        rintro e w1 ⟨rfl, hb1⟩
        have hbw := hb.trans (hb1.mono hb.size)
        clear hb1
        go_wp2_with fail
        go_roundw
        case rel => exact ⟨j + 1, by omega, by go_num, fun i t hi hti => (Nat.lt_succ_iff_lt_or_eq.1 hi).elim (fun hi => HJ.out i t hi hti) (fun he => by subst he; obtain rfl := Option.some.inj (hti.symm.trans HT.out); exact HG.out), hbw⟩
        case measure => simp [intOf]; omega
    case neg =>
      go_wp2_with fail
      go_ret
      exact ⟨-1, rfl, by rw [Co.eras_yes ks1 fun i t hti => HJ.out i t (by have := (List.getElem?_eq_some_iff.1 hti).1; omega) hti]; simp, hb⟩
theorem impl_anyCont (N : Nat) (ih : AnyW N) (ks1 : List Co) (a : Option Addr) (c : Nat) (p : Addr) (w : World) (hN : Co.bulks ks1 ≤ N) (hp : w.cell? p = some (.func (.func 118) #[] #[])) (hr : RdL w (Co.ds ks1) (.slice a ks1.length c)) :
    Calls Try.prog 92 #[.slice a ks1.length c, .func (.func 132) #[] #[.pointer (some p)]] w fun e w' => e = .returned (.bool (!Co.eras ks1)) ∧ Below w.heap.size w w' := by
  have HC := hid (impl_anyIndex N ih ks1 a c p w hN hp hr)
  clear hr hp ih
  go_enter Try.func92, Try.ntmps92
  go_wp2_with fail
  refine HC.out.mono ?_
  rintro e w1 ⟨r, rfl, hr, hb⟩
  have HR := hid hr
  clear hr
  go_wp2_with fail
  go_ret
  exact ⟨ret_bool HR.out, hb⟩
theorem impl_any_step (N : Nat) (ih : AnyW N) : AnyW (N + 1) := by
  intro k1 v1 ds1 ks1 ads1 cds1 aks1 cks1 w hN hr
  have hbk : Co.bulk (Co.mk k1 v1 ds1 ks1) = In.bulks ds1 + Co.bulks ks1 := rfl
  have HE := hid (show Co.era (Co.mk k1 v1 ds1 ks1) = (!(decide (k1 = 6) || decide (k1 = 7)) && Co.eras ks1) from rfl)
  have HX0 := hid (((Boxes.nil w).alloc #[.int .i64 k1, .int .i64 v1, .slice ads1 ds1.length cds1, .slice aks1 ks1.length cks1] 35 (0, 0)).alloc #[.func (.func 118) #[] #[]] 128 (0, 0))
  have hB : Below w.heap.size w ((w.alloc (.cells #[.int .i64 k1, .int .i64 v1, .slice ads1 ds1.length cds1, .slice aks1 ks1.length cks1] 35)).alloc (.cells #[.func (.func 118) #[] #[]] 128)) := ((Below.refl _ _).alloc (Nat.le_refl _) _).alloc (by simp) _
  have hc := fun W (hW : Below w.heap.size w W) hp => impl_anyCont N ih ks1 aks1 cks1 ⟨w.heap.size + 1, 0, none⟩ W (by omega) hp (hr.fCo.2.2.2.below hW)
  have hv := impl_isBox k1 v1 ds1 ks1 ads1 cds1 aks1 cks1 ((w.alloc (.cells #[.int .i64 k1, .int .i64 v1, .slice ads1 ds1.length cds1, .slice aks1 ks1.length cks1] 35)).alloc (.cells #[.func (.func 118) #[] #[]] 128))
  have HB := hid hB
  have HC := hid hc
  clear hc hr hB ih hbk hN
  by_cases hq : (decide (k1 = 6) || decide (k1 = 7)) = true
  case pos =>
    rw [hq] at hv
    have HV := hid hv
    have HQ := hid hq
    clear hv hq HC
    go_enter Try.func117, Try.ntmps117
    go_wp2_with fail
    refine HV.out.mono ?_
    rintro e w1 ⟨rfl, hb⟩
    have HB1 := hid (HB.out.trans (hb.mono HB.out.size))
    clear hb
    go_wp2_with fail
    go_ret
    exact ⟨ret_bool (by rw [HE.out, HQ.out]; rfl), HB1.out⟩
  case neg =>
    replace hq := (Bool.not_eq_true _).mp hq
    rw [hq] at hv
    have HV := hid hv
    have HQ := hid hq
    clear hv hq
    go_enter Try.func117, Try.ntmps117
    go_wp2_with fail
    refine HV.out.mono ?_
    rintro e w1 ⟨rfl, hb⟩
    have HB1 := hid (HB.out.trans (hb.mono HB.out.size))
    have HX1 := hid (HX0.out.below hb)
    have g3 := HX1.out.at 1 3 rfl rfl
    have gf := HX1.out.at 0 0 rfl rfl
    simp only [World.size_alloc] at gf
    have GF := hid gf
    clear hb gf
    go_wp2_with fail
    refine (HC.out _ HB1.out GF.out).mono ?_
    rintro e w2 ⟨rfl, hb⟩
    have HB2 := hid (HB1.out.trans (hb.mono HB1.out.size))
    clear hb
    go_wp2_with fail
    go_ret
    exact ⟨ret_bool (by rw [HE.out, HQ.out]; simp), HB2.out⟩
theorem impl_any_all : ∀ N, AnyW N
  | 0 => fun _ _ _ _ _ _ _ _ _  h => absurd h (by omega)
  | N + 1 => impl_any_step N (impl_any_all N)

theorem impl_IsErased (k1 : Int) (v1 : Int) (ds1 : List Int) (ks1 : List Co) (ads1 : Option Addr) (cds1 : Nat) (aks1 : Option Addr) (cks1 : Nat) (w : World) (hM : Co.bulk (Co.mk k1 v1 ds1 ks1) ≤ 1048576) (hr : RdS w (Co.d (Co.mk k1 v1 ds1 ks1)) [.int .i64 k1, .int .i64 v1, .slice ads1 ds1.length cds1, .slice aks1 ks1.length cks1]) :
    Calls Try.prog 94 #[.agg #[.int .i64 k1, .int .i64 v1, .slice ads1 ds1.length cds1, .slice aks1 ks1.length cks1]] w fun e w' => e = .returned (.bool (Co.ok (Co.mk k1 v1 ds1 ks1) && Co.era (Co.mk k1 v1 ds1 ks1))) ∧ Below w.heap.size w w' := by
  have HX0 := hid ((Boxes.nil w).alloc #[.int .i64 k1, .int .i64 v1, .slice ads1 ds1.length cds1, .slice aks1 ks1.length cks1] 35 (0, 0))
  have hB := (Below.refl w.heap.size w).alloc (Nat.le_refl _) (.cells #[.int .i64 k1, .int .i64 v1, .slice ads1 ds1.length cds1, .slice aks1 ks1.length cks1] 35)
  have hv := impl_ValidCore k1 v1 ds1 ks1 ads1 cds1 aks1 cks1 _ hM (hr.below hB)
  have hc := fun W (hW : Below w.heap.size w W) => impl_any_all (Co.bulk (Co.mk k1 v1 ds1 ks1) + 1) k1 v1 ds1 ks1 ads1 cds1 aks1 cks1 W (by omega) (hr.below hW)
  have HB := hid hB
  by_cases hok : Co.ok (Co.mk k1 v1 ds1 ks1) = true
  case neg =>
    replace hok := (Bool.not_eq_true _).mp hok
    rw [hok] at hv ⊢
    have HV := hid hv
    clear hr hB hv hc hok HX0
    go_enter Try.func94, Try.ntmps94
    go_wp2_with fail
    refine HV.out.mono ?_
    rintro e w1 ⟨rfl, hb⟩
    have HB1 := hid (HB.out.trans (hb.mono HB.out.size))
    clear hb
    go_wp2_with fail
    go_ret
    exact ⟨rfl, HB1.out⟩
  case pos =>
    rw [hok] at hv ⊢
    have HV := hid hv
    have HC := hid hc
    clear hr hB hv hc hok
    go_enter Try.func94, Try.ntmps94
    go_wp2_with fail
    refine HV.out.mono ?_
    rintro e w1 ⟨rfl, hb⟩
    have HB1 := hid (HB.out.trans (hb.mono HB.out.size))
    have HX1 := hid (HX0.out.below hb)
    have g0 := HX1.out.at 0 0 rfl rfl
    have g1 := HX1.out.at 0 1 rfl rfl
    have g2 := HX1.out.at 0 2 rfl rfl
    have g3 := HX1.out.at 0 3 rfl rfl
    clear hb
    go_wp2_with fail
    refine (HC.out _ HB1.out).mono ?_
    rintro e w2 ⟨rfl, hb⟩
    have HB2 := hid (HB1.out.trans (hb.mono HB1.out.size))
    clear hb
    go_wp2_with fail
    go_ret
    exact ⟨ret_bool (by simp), HB2.out⟩
end Go.Proofs.Ytlbebnmhldolnaa
