/- Walks: whether a core has neither boxes nor lets. -/
import Derived.Test.YtlbebnmhldolnaaCoFits
namespace Go.Proofs.Ytlbebnmhldolnaa
open Go.ChangeShapes Go.WideShapes Go.ChangeAt Go.RowKit
set_option linter.unusedVariables false

mutual
def Co.era : Co → Bool
  | .mk k _ _ ks => !(decide (k = 6) || decide (k = 7)) && Co.eras ks
def Co.eras : List Co → Bool
  | [] => true
  | t :: ts => Co.era t && Co.eras ts
end
theorem Co.eras_no : ∀ (ts : List Co) (j : Nat) (t : Co), ts[j]? = some t → Co.era t = false → Co.eras ts = false
  | [], j, t, h, _ => by simp at h
  | u :: ts, 0, t, h, e => by simp at h; subst h; simp [Co.eras, e]
  | u :: ts, j + 1, t, h, e => by rw [Co.eras, Co.eras_no ts j t (by simpa using h) e]; simp
theorem Co.eras_yes : ∀ (ts : List Co), (∀ (j : Nat) t, ts[j]? = some t → Co.era t = true) → Co.eras ts = true
  | [], _ => rfl
  | t :: ts, h => by rw [Co.eras, h 0 t rfl, Co.eras_yes ts fun j u hj => h (j + 1) u (by simpa using hj)]; rfl

def SpEraW (N : Nat) : Prop := ∀ (k1 : Int) (v1 : Int) (ds1 : List Int) (ks1 : List Co) (ads1 : Option Addr) (cds1 : Nat) (aks1 : Option Addr) (cks1 : Nat) (b1 o1 : Nat) (w : World), Co.bulk (Co.mk k1 v1 ds1 ks1) < N → w.cell? ⟨b1, o1, none⟩ = some (.int .i64 k1) → w.cell? ⟨b1, o1 + 1, none⟩ = some (.int .i64 v1) → w.cell? ⟨b1, o1 + 2, none⟩ = some (.slice ads1 ds1.length cds1) → w.cell? ⟨b1, o1 + 3, none⟩ = some (.slice aks1 ks1.length cks1) → RdS w (Co.d (Co.mk k1 v1 ds1 ks1)) [.int .i64 k1, .int .i64 v1, .slice ads1 ds1.length cds1, .slice aks1 ks1.length cks1] →
  Calls Try.prog 73 #[.pointer (some ⟨b1, o1, none⟩)] w fun e w' => e = .returned (.bool (Co.era (Co.mk k1 v1 ds1 ks1))) ∧ Below w.heap.size w w'
set_option maxHeartbeats 1000000 in
theorem spec_era_step (N : Nat) (ih : SpEraW N) : SpEraW (N + 1) := by
  intro k1 v1 ds1 ks1 ads1 cds1 aks1 cks1 b1 o1 w hN x0 x1 x2 x3 hr
  have hbk : Co.bulk (Co.mk k1 v1 ds1 ks1) = In.bulks ds1 + Co.bulks ks1 := rfl
  have hed : Co.era (Co.mk k1 v1 ds1 ks1) = (!(decide (k1 = 6) || decide (k1 = 7)) && Co.eras ks1) := rfl
  obtain ⟨_, _, e, h2, h3, h4⟩ := hr.fCo.2.2.2.eCo
  simp only [Value.slice.injEq, true_and] at e
  obtain ⟨rfl, rfl⟩ := e
  have IH := hid ih
  have H4 := hid h4
  have HK := hid hbk
  have HN := hid hN
  have HE := hid hed
  have X3 := hid x3
  have XL := hid (World.block_lt_of_cell? _ _ x3)
  clear ih hr h4 hbk hN hed x1 x2
  by_cases h6 : k1 = 6
  case pos =>
    subst h6
    have HF := hid (show Co.era (Co.mk 6 v1 ds1 ks1) = false by rw [HE.out]; simp)
    go_enter Try.func73, Try.ntmps73
    go_wp2_with fail
    go_ret
    exact ⟨ret_bool HF.out.symm, Below.refl _ _⟩
  case neg =>
  by_cases h7 : k1 = 7
  case pos =>
    subst h7
    have HF := hid (show Co.era (Co.mk 7 v1 ds1 ks1) = false by rw [HE.out]; simp)
    clear h6
    go_enter Try.func73, Try.ntmps73
    go_wp2_with fail
    go_ret
    exact ⟨ret_bool HF.out.symm, Below.refl _ _⟩
  case neg =>
    have g6 : (k1 == 6) = false := by simp [h6]
    have g7 : (k1 == 7) = false := by simp [h7]
    have HF := hid (show Co.era (Co.mk k1 v1 ds1 ks1) = Co.eras ks1 by rw [HE.out]; simp [h6, h7])
    clear h6 h7
    go_enter Try.func73, Try.ntmps73
    go_wp2_with fail
    go_loopw [3] (fun i wr => ∃ (j : Nat), j ≤ ks1.length ∧ i = .int .i64 j ∧ Hid (∀ (i : Nat) t, i < j → ks1[i]? = some t → Co.era t = true) ∧ Below w.heap.size w wr) (fun i _ => ks1.length - (intOf i).toNat)
    case atStart => exact ⟨0, by omega, rfl, fun i t hi => absurd hi (by omega), Below.refl _ _⟩
    case round =>
      obtain ⟨j, hj, rfl, HJ, hb⟩ := hrel
      have z3 := (hb.cell (p := ⟨b1, o1 + 3, none⟩) XL.out).trans X3.out
      by_cases hlt : j < ks1.length
      case pos =>
        obtain ⟨b, o, rfl, hbl, hall⟩ := H4.out (by omega)
        obtain ⟨t, ht⟩ : ∃ t, ks1[j]? = some t := ⟨_, List.getElem?_eq_getElem hlt⟩
        obtain ⟨k3, v3, ds3, ks3⟩ := t
        obtain ⟨ads3, cds3, aks3, cks3, q0, q1, q2, q3, hrk⟩ := hall j k3 v3 ds3 ks3 ht
        clear hall H4
        have hbg := Co.bulk_get ks1 j _ ht
        have hc := IH.out k3 v3 ds3 ks3 ads3 cds3 aks3 cks3 b (o + j * 4) wr (by have := HK.out; have := HN.out; omega)
          ((hb.cell (p := ⟨b, o + j * 4, none⟩) hbl).trans q0) ((hb.cell (p := ⟨b, o + j * 4 + 1, none⟩) hbl).trans q1) ((hb.cell (p := ⟨b, o + j * 4 + 2, none⟩) hbl).trans q2) ((hb.cell (p := ⟨b, o + j * 4 + 3, none⟩) hbl).trans q3) (hrk.below hb)
        have HT := hid ht
        by_cases hg : Co.era (.mk k3 v3 ds3 ks3) = true
        case neg =>
          replace hg := (Bool.not_eq_true _).mp hg
          rw [hg] at hc
          have HC := hid hc
          have HG := hid hg
          clear ht hrk q0 q1 q2 q3 hc hg
          go_wp2_with fail
          refine HC.out.mono ?_
          clear HC
          rintro e w1 ⟨rfl, hb1⟩
          have hbw := hb.trans (hb1.mono hb.size)
          clear hb1 z3
          go_wp2_with fail
          go_ret
          exact ⟨ret_bool (by rw [HF.out, Co.eras_no ks1 j _ HT.out HG.out]), hbw⟩
        case pos =>
          rw [hg] at hc
          have HC := hid hc
          have HG := hid hg
          clear ht hrk q0 q1 q2 q3 hc hg
          go_wp2_with fail
          refine HC.out.mono ?_
          clear HC
          rintro e w1 ⟨rfl, hb1⟩
          have hbw := hb.trans (hb1.mono hb.size)
          clear hb1 z3
          go_wp2_with fail
          go_roundw
          case rel => exact ⟨j + 1, by omega, by go_num, fun i t hi hti => (Nat.lt_succ_iff_lt_or_eq.1 hi).elim (fun hi => HJ.out i t hi hti) (fun he => by subst he; obtain rfl := Option.some.inj (hti.symm.trans HT.out); exact HG.out), hbw⟩
          case measure => simp [intOf]; omega
      case neg =>
        go_wp2_with fail
        go_ret
        exact ⟨ret_bool (by rw [HF.out, Co.eras_yes ks1 fun i t hti => HJ.out i t (by have := (List.getElem?_eq_some_iff.1 hti).1; omega) hti]), hb⟩
theorem spec_era_all : ∀ N, SpEraW N
  | 0 => fun _ _ _ _ _ _ _ _ _ _ _  h => absurd h (by omega)
  | N + 1 => spec_era_step N (spec_era_all N)

end Go.Proofs.Ytlbebnmhldolnaa
