/- Cores: the definitions that a core names: plain facts, and the walk of the reference. -/
import Derived.Test.YtejdbmeoaekhcaaCoClosed
namespace Go.Proofs.Ytejdbmeoaekhcaa
open Go.ChangeShapes Go.WideShapes Go.ChangeAt Go.RowKit
set_option linter.unusedVariables false

def allLt : List Int → Int → Bool
  | [], _ => true
  | x :: l, n => (!decide (n ≤ x)) && allLt l n
theorem allLt_no : ∀ (l : List Int) (n : Int) (j : Nat) (x : Int), l[j]? = some x → n ≤ x → allLt l n = false
  | [], n, j, x, h, _ => by simp at h
  | y :: l, n, 0, x, h, e => by simp at h; subst h; simp [allLt, e]
  | y :: l, n, j + 1, x, h, e => by rw [allLt, allLt_no l n j x (by simpa using h) e]; simp
theorem allLt_yes : ∀ (l : List Int) (n : Int), (∀ (j : Nat) x, l[j]? = some x → x < n) → allLt l n = true
  | [], _, _ => rfl
  | y :: l, n, h => by
    have h0 := h 0 y rfl
    have hf : decide (n ≤ y) = false := by simp; omega
    rw [allLt, hf, allLt_yes l n fun j x hj => h (j + 1) x (by simpa using hj)]; rfl
mutual
/-- All definitions named are below n. -/
def Co.refs : Co → Int → Bool
  | .mk k v ds ks, n => (!(decide (k = 11) && decide (n ≤ v))) && (allLt ds n && Co.refss ks n)
def Co.refss : List Co → Int → Bool
  | [], _ => true
  | t :: ts, n => Co.refs t n && Co.refss ts n
end
theorem Co.refss_no : ∀ (ts : List Co) (n : Int) (j : Nat) (t : Co), ts[j]? = some t → Co.refs t n = false → Co.refss ts n = false
  | [], n, j, t, h, _ => by simp at h
  | u :: ts, n, 0, t, h, e => by simp at h; subst h; simp [Co.refss, e]
  | u :: ts, n, j + 1, t, h, e => by rw [Co.refss, Co.refss_no ts n j t (by simpa using h) e]; simp
theorem Co.refss_yes : ∀ (ts : List Co) (n : Int), (∀ (j : Nat) t, ts[j]? = some t → Co.refs t n = true) → Co.refss ts n = true
  | [], _, _ => rfl
  | t :: ts, n, h => by rw [Co.refss, h 0 t rfl, Co.refss_yes ts n fun j u hj => h (j + 1) u (by simpa using hj)]; rfl

def RefW (N : Nat) : Prop := ∀ (k1 : Int) (v1 : Int) (ds1 : List Int) (ks1 : List Co) (ads1 : Option Addr) (cds1 : Nat) (aks1 : Option Addr) (cks1 : Nat) (b1 o1 : Nat) (n : Int) (w : World), Co.bulk (Co.mk k1 v1 ds1 ks1) < N → w.cell? ⟨b1, o1, none⟩ = some (.int .i64 k1) → w.cell? ⟨b1, o1 + 1, none⟩ = some (.int .i64 v1) → w.cell? ⟨b1, o1 + 2, none⟩ = some (.slice ads1 ds1.length cds1) → w.cell? ⟨b1, o1 + 3, none⟩ = some (.slice aks1 ks1.length cks1) → RdS w (Co.d (Co.mk k1 v1 ds1 ks1)) [.int .i64 k1, .int .i64 v1, .slice ads1 ds1.length cds1, .slice aks1 ks1.length cks1] →
  Calls Try.prog 46 #[.pointer (some ⟨b1, o1, none⟩), .int .i64 n] w fun e w' => e = .returned (.bool (Co.refs (Co.mk k1 v1 ds1 ks1) n)) ∧ Below w.heap.size w w'
set_option maxHeartbeats 1000000 in
theorem ref_step (N : Nat) (ih : RefW N) : RefW (N + 1) := by
  intro k1 v1 ds1 ks1 ads1 cds1 aks1 cks1 b1 o1 n w hN x0 x1 x2 x3 hr
  have hbk : Co.bulk (Co.mk k1 v1 ds1 ks1) = In.bulks ds1 + Co.bulks ks1 := rfl
  have HE := hid (show Co.refs (Co.mk k1 v1 ds1 ks1) n = ((!(decide (k1 = 11) && decide (n ≤ v1))) && (allLt ds1 n && Co.refss ks1 n)) from rfl)
  by_cases hA : k1 = 11 ∧ n ≤ v1
  case pos =>
    obtain ⟨rfl, hv⟩ := hA
    have hvb : decide (n ≤ v1) = true := by simp [hv]
    have HF := hid (show Co.refs (Co.mk 11 v1 ds1 ks1) n = false by rw [HE.out]; simp [hv])
    clear hv x2 x3 hr ih hN hbk HE
    go_enter Try.func46, Try.ntmps46
    go_wp2_with fail
    go_ret
    exact ⟨ret_bool HF.out.symm, Below.refl _ _⟩
  case neg =>
    have HF := hid (show Co.refs (Co.mk k1 v1 ds1 ks1) n = (allLt ds1 n && Co.refss ks1 n) by
      rw [HE.out]
      have : (decide (k1 = 11) && decide (n ≤ v1)) = false := by simpa using hA
      rw [this]; rfl)
    have hcase : ((k1 == 11) = true ∧ decide (n ≤ v1) = false) ∨ (k1 == 11) = false := by
      by_cases h1 : k1 = 11
      · left; exact ⟨by simp [h1], by simp; have : ¬ n ≤ v1 := fun c => hA ⟨h1, c⟩; omega⟩
      · right; simp [h1]
    obtain ⟨_, _, e, i2, i3, i4⟩ := hr.fCo.2.2.1.eIn
    simp only [Value.slice.injEq, true_and] at e
    obtain ⟨rfl, rfl⟩ := e
    obtain ⟨_, _, e, h2, h3, h4⟩ := hr.fCo.2.2.2.eCo
    simp only [Value.slice.injEq, true_and] at e
    obtain ⟨rfl, rfl⟩ := e
    have IH := hid ih
    have H4 := hid h4
    have I4 := hid i4
    have HK := hid hbk
    have HN := hid hN
    have X3 := hid x3
    have XL := hid (World.block_lt_of_cell? _ _ x3)
    clear ih hr h4 i4 hbk hN hA HE
    rcases hcase with ⟨g1, gv⟩ | g1
    all_goals
      go_enter Try.func46, Try.ntmps46
      go_wp2_with fail
      go_loopw [5] (fun i wr => ∃ (j : Nat), j ≤ ds1.length ∧ i = .int .i64 j ∧ Hid (∀ (i : Nat) x, i < j → ds1[i]? = some x → x < n) ∧ w = wr) (fun i _ => ds1.length - (intOf i).toNat)
      case atStart => exact ⟨0, by omega, rfl, fun i t hi => absurd hi (by omega), rfl⟩
      case round =>
        obtain ⟨j, hj, rfl, HJ, rfl⟩ := hrel
        by_cases hlt : j < ds1.length
        case pos =>
          obtain ⟨b, o, rfl, hbl, hall⟩ := I4.out (by omega)
          obtain ⟨x, hx⟩ : ∃ x, ds1[j]? = some x := ⟨_, List.getElem?_eq_getElem hlt⟩
          obtain ⟨q0, hfc⟩ := hall j x hx
          have HT := hid hx
          clear hall I4 hx
          by_cases hi : n ≤ x
          case pos =>
            have hib : decide (n ≤ x) = true := by simp [hi]
            have HI := hid hi
            clear hi
            go_wp2_with fail
            go_ret
            exact ⟨ret_bool (by rw [HF.out, allLt_no _ n j x HT.out HI.out]; rfl), Below.refl _ _⟩
          case neg =>
            have hib : decide (n ≤ x) = false := by simp; omega
            have HI := hid hi
            clear hi
            go_wp2_with fail
            go_roundw
            case rel =>
              refine ⟨j + 1, by omega, by go_num, fun i t hi hti => ?_, by first | rfl | trivial⟩
              rcases Nat.lt_succ_iff_lt_or_eq.1 hi with hi | rfl
              · exact HJ.out i t hi hti
              · obtain rfl := Option.some.inj (hti.symm.trans HT.out)
                have := HI.out; omega
            case measure => simp [intOf]; omega
        case neg =>
          have HF2 := hid (show Co.refs (Co.mk k1 v1 ds1 ks1) n = Co.refss ks1 n by rw [HF.out, allLt_yes ds1 n fun i x hx => HJ.out i x (by have := (List.getElem?_eq_some_iff.1 hx).1; omega) hx]; rfl)
          clear HF
          go_wp2_with fail
          go_loopw [6] (fun i wr => ∃ (j : Nat), j ≤ ks1.length ∧ i = .int .i64 j ∧ Hid (∀ (i : Nat) t, i < j → ks1[i]? = some t → Co.refs t n = true) ∧ Below w.heap.size w wr) (fun i _ => ks1.length - (intOf i).toNat)
          case atStart => exact ⟨0, by omega, rfl, fun i t hi => absurd hi (by omega), Below.refl _ _⟩
          case round =>
            obtain ⟨j, hj, rfl, HJ2, hb⟩ := hrel
            have z3 := (hb.cell (p := ⟨b1, o1 + 3, none⟩) XL.out).trans X3.out
            by_cases hlt : j < ks1.length
            case pos =>
              obtain ⟨b, o, rfl, hbl, hall⟩ := H4.out (by omega)
              obtain ⟨t, ht⟩ : ∃ t, ks1[j]? = some t := ⟨_, List.getElem?_eq_getElem hlt⟩
              obtain ⟨k3, v3, ds3, ks3⟩ := t
              obtain ⟨ads3, cds3, aks3, cks3, q0, q1, q2, q3, hrk⟩ := hall j k3 v3 ds3 ks3 ht
              clear hall H4
              have hbg := Co.bulk_get ks1 j _ ht
              have hc := IH.out k3 v3 ds3 ks3 ads3 cds3 aks3 cks3 b (o + j * 4) n wr (by have := HK.out; have := HN.out; omega)
                ((hb.cell (p := ⟨b, o + j * 4, none⟩) hbl).trans q0) ((hb.cell (p := ⟨b, o + j * 4 + 1, none⟩) hbl).trans q1) ((hb.cell (p := ⟨b, o + j * 4 + 2, none⟩) hbl).trans q2) ((hb.cell (p := ⟨b, o + j * 4 + 3, none⟩) hbl).trans q3) (hrk.below hb)
              have HT := hid ht
              by_cases hg : Co.refs (.mk k3 v3 ds3 ks3) n = true
              case neg =>
                replace hg := (Bool.not_eq_true _).mp hg
                rw [hg] at hc
                have HC := hid hc
                have HG := hid hg
                clear ht hrk q0 q1 q2 q3 hc hg
                go_wp2_with fail
                refine HC.out.mono ?_
                clear HC
                rintro e w1 ⟨rfl, hb1⟩
                have hbw := hb.trans (hb1.mono hb.size)
                clear hb1 z3
                go_wp2_with fail
                go_ret
                exact ⟨ret_bool (by rw [HF2.out, Co.refss_no ks1 n j _ HT.out HG.out]), hbw⟩
              case pos =>
                rw [hg] at hc
                have HC := hid hc
                have HG := hid hg
                clear ht hrk q0 q1 q2 q3 hc hg
                go_wp2_with fail
                refine HC.out.mono ?_
                clear HC
                rintro e w1 ⟨rfl, hb1⟩
                have hbw := hb.trans (hb1.mono hb.size)
                clear hb1 z3
                go_wp2_with fail
                go_roundw
                case rel => exact ⟨j + 1, by omega, by go_num, fun i t hi hti => (Nat.lt_succ_iff_lt_or_eq.1 hi).elim (fun hi => HJ2.out i t hi hti) (fun he => by subst he; obtain rfl := Option.some.inj (hti.symm.trans HT.out); exact HG.out), hbw⟩
                case measure => simp [intOf]; omega
            case neg =>
              go_wp2_with fail
              go_ret
              exact ⟨ret_bool (by rw [HF2.out, Co.refss_yes ks1 n fun i t hti => HJ2.out i t (by have := (List.getElem?_eq_some_iff.1 hti).1; omega) hti]), hb⟩
theorem ref_all : ∀ N, RefW N
  | 0 => fun _ _ _ _ _ _ _ _ _ _ _ _  h => absurd h (by omega)
  | N + 1 => ref_step N (ref_all N)
end Go.Proofs.Ytejdbmeoaekhcaa
