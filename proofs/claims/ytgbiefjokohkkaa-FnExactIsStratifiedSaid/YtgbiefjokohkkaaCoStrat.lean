/- Cores: whether levels are kept: plain facts, and the walk of the reference. -/
import Derived.Test.YtgbiefjokohkkaaCoLev
namespace Go.Proofs.Ytgbiefjokohkkaa
open Go.ChangeShapes Go.WideShapes Go.ChangeAt Go.RowKit Go.BigFrame
open Go.Sort (grow)
set_option linter.unusedVariables false

def allEq : List Int → Int → Bool
  | [], _ => true
  | x :: l, n => decide (x = n) && allEq l n
theorem allEq_no : ∀ (l : List Int) (n : Int) (j : Nat) (x : Int), l[j]? = some x → x ≠ n → allEq l n = false
  | [], n, j, x, h, _ => by simp at h
  | y :: l, n, 0, x, h, e => by simp at h; subst h; simp [allEq, e]
  | y :: l, n, j + 1, x, h, e => by rw [allEq, allEq_no l n j x (by simpa using h) e]; simp
theorem allEq_yes : ∀ (l : List Int) (n : Int), (∀ (j : Nat) x, l[j]? = some x → x = n) → allEq l n = true
  | [], _, _ => rfl
  | y :: l, n, h => by rw [allEq, allEq_yes l n fun j x hj => h (j + 1) x (by simpa using hj)]; simpa using h 0 y rfl
def lamOk (L : List Int) (l : Int) : Bool := decide (L.length ≤ 1) && allEq L l
def letOk (L : List Int) (l : Int) : Bool := allEq L l || allEq L (l + 1)
def levAt (ks : List Co) (j : Nat) (l : Int) : List Int := match ks[j]? with | some t => Co.lev t 0 l | none => []
theorem levAt_eq {ks : List Co} {j : Nat} {t : Co} (h : ks[j]? = some t) (l : Int) : levAt ks j l = Co.lev t 0 l := by unfold levAt; rw [h]
def nodeOk (k : Int) (ks : List Co) (l : Int) : Bool := if k = 4 then lamOk (levAt ks 0 l) l else if k = 7 then letOk (levAt ks 1 l) l else true
mutual
def Co.strat : Co → Int → Bool
  | .mk k _ _ ks, l => decide (l ≤ 8) && (nodeOk k ks l && Co.strats ks (if k = 6 then l + 1 else l))
def Co.strats : List Co → Int → Bool
  | [], _ => true
  | t :: ts, l => Co.strat t l && Co.strats ts l
end
theorem Co.strats_no : ∀ (ts : List Co) (n : Int) (j : Nat) (t : Co), ts[j]? = some t → Co.strat t n = false → Co.strats ts n = false
  | [], n, j, t, h, _ => by simp at h
  | u :: ts, n, 0, t, h, e => by simp at h; subst h; simp [Co.strats, e]
  | u :: ts, n, j + 1, t, h, e => by rw [Co.strats, Co.strats_no ts n j t (by simpa using h) e]; simp
theorem Co.strats_yes : ∀ (ts : List Co) (n : Int), (∀ (j : Nat) t, ts[j]? = some t → Co.strat t n = true) → Co.strats ts n = true
  | [], _, _ => rfl
  | t :: ts, n, h => by rw [Co.strats, h 0 t rfl, Co.strats_yes ts n fun j u hj => h (j + 1) u (by simpa using hj)]; rfl
mutual
theorem Co.lev_rng : ∀ (t : Co) (i l x : Int), x ∈ Co.lev t i l → l ≤ x ∧ x ≤ l + Co.bulk t
  | .mk k v ds ks, i, l, x, h => by
    simp only [Co.lev] at h
    have hb : (Co.bulk (.mk k v ds ks) : Int) = In.bulks ds + Co.bulks ks := by simp [Co.bulk]
    split at h
    · split at h
      · simp at h; omega
      · simp at h
    · have := Co.levs_rng k 0 ks i _ x h
      have h2 : ks = [] ∨ 1 ≤ Co.bulks ks := by cases ks <;> simp [Co.bulks]; omega
      rcases h2 with rfl | h2
      · simp [Co.levs] at h
      · split at this <;> omega
theorem Co.levs_rng : ∀ (k : Int) (j : Nat) (ts : List Co) (i l x : Int), x ∈ Co.levs k j ts i l → l ≤ x ∧ x + 1 ≤ l + Co.bulks ts
  | k, j, [], i, l, x, h => by simp [Co.levs] at h
  | k, j, t :: ts, i, l, x, h => by
    have hb : (Co.bulks (t :: ts) : Int) = 1 + Co.bulk t + Co.bulks ts := by simp [Co.bulks]
    simp only [Co.levs, List.mem_append] at h
    rcases h with h | h
    · have := Co.lev_rng t _ l x h; omega
    · have := Co.levs_rng k (j + 1) ts i l x h; omega
end

theorem spec_l06All (ds : List Int) (a : Option Addr) (c : Nat) (n : Int) (w : World) (hr : RdL w (In.ds ds) (.slice a ds.length c)) :
    Calls Try.prog 107 #[.slice a ds.length c, .int .i64 n] w fun e w' => e = .returned (.bool (allEq ds n)) ∧ w = w' := by
  obtain ⟨_, _, e, i2, i3, i4⟩ := hr.eIn
  simp only [Value.slice.injEq, true_and] at e
  obtain ⟨rfl, rfl⟩ := e
  have I4 := hid i4
  clear hr i4
  go_enter Try.func107, Try.ntmps107
  go_wp2_with fail
  go_loopw [5] (fun i wr => ∃ (j : Nat), j ≤ ds.length ∧ i = .int .i64 j ∧ Hid (∀ (i : Nat) x, i < j → ds[i]? = some x → x = n) ∧ w = wr) (fun i _ => ds.length - (intOf i).toNat)
  case atStart => exact ⟨0, by omega, rfl, fun i t hi => absurd hi (by omega), rfl⟩
  case round =>
    obtain ⟨j, hj, rfl, HJ, rfl⟩ := hrel
    by_cases hlt : j < ds.length
    case pos =>
      obtain ⟨b, o, rfl, hbl, hall⟩ := I4.out (by omega)
      obtain ⟨x, hx⟩ : ∃ x, ds[j]? = some x := ⟨_, List.getElem?_eq_getElem hlt⟩
      obtain ⟨q0, hfc⟩ := hall j x hx
      have HT := hid hx
      clear hall I4 hx
      by_cases hi : x = n
      case neg =>
        have hb : (x != n) = true := by simp [hi]
        have HI := hid hi
        clear hi
        go_wp2_with fail
        go_ret
        exact ⟨ret_bool (allEq_no _ n j x HT.out HI.out).symm, rfl⟩
      case pos =>
        have hb : (x != n) = false := by simp [hi]
        have HI := hid hi
        clear hi
        go_wp2_with fail
        go_roundw
        case rel =>
          refine ⟨j + 1, by omega, by go_num, fun i t hi hti => ?_, by first | rfl | trivial⟩
          rcases Nat.lt_succ_iff_lt_or_eq.1 hi with hi | rfl
          · exact HJ.out i t hi hti
          · obtain rfl := Option.some.inj (hti.symm.trans HT.out)
            exact HI.out
        case measure => simp [intOf]; omega
    case neg =>
      go_wp2_with fail
      go_ret
      exact ⟨ret_bool (allEq_yes ds n fun i x hx => HJ.out i x (by have := (List.getElem?_eq_some_iff.1 hx).1; omega) hx).symm, rfl⟩

/-- What a fresh list of levels reads as. -/
theorem lev_res {w w' : World} {e : Ending} {t : Co} {l : Int} (hl : 0 ≤ l ∧ l ≤ 4194304) (hb : Co.bulk t ≤ 1048576) (h : GrowPost 2 w w ([] ++ Co.lev t 0 l) e w') :
    ∃ a c, e = .returned (.slice a (Co.lev t 0 l).length c) ∧ RdL w' (In.ds (Co.lev t 0 l)) (.slice a (Co.lev t 0 l).length c) ∧ Below w.heap.size w w' ∧ w'.ownsRow w.heap.size 2 1 (.slice a (Co.lev t 0 l).length c) (Co.lev t 0 l).length ((Co.lev t 0 l).map (Value.int .i64)) := by
  obtain ⟨v', rfl, h1, h2, -⟩ := h
  rw [List.nil_append] at h1
  have hr := own_RdL h1 (fun x hx => by have := Co.lev_rng t 0 l x hx; omega)
  obtain ⟨a, c, rfl, -⟩ := hr.eIn
  exact ⟨a, c, rfl, hr, h2, h1⟩
theorem spec_lev0 (k1 : Int) (v1 : Int) (ds1 : List Int) (ks1 : List Co) (ads1 : Option Addr) (cds1 : Nat) (aks1 : Option Addr) (cks1 : Nat) (b1 o1 : Nat) (l : Int) (w : World) (hl : 0 ≤ l) (hl2 : l ≤ 9) (hM : Co.bulk (Co.mk k1 v1 ds1 ks1) ≤ 1048576) (x0 : w.cell? ⟨b1, o1, none⟩ = some (.int .i64 k1)) (x1 : w.cell? ⟨b1, o1 + 1, none⟩ = some (.int .i64 v1)) (x2 : w.cell? ⟨b1, o1 + 2, none⟩ = some (.slice ads1 ds1.length cds1)) (x3 : w.cell? ⟨b1, o1 + 3, none⟩ = some (.slice aks1 ks1.length cks1)) (hr : RdS w (Co.d (Co.mk k1 v1 ds1 ks1)) [.int .i64 k1, .int .i64 v1, .slice ads1 ds1.length cds1, .slice aks1 ks1.length cks1]) :
    Calls Try.prog 106 #[.pointer (some ⟨b1, o1, none⟩), .int .i64 0, .int .i64 l, .slice none 0 0] w fun e w' => ∃ a c, e = .returned (.slice a (Co.lev (Co.mk k1 v1 ds1 ks1) 0 l).length c) ∧ RdL w' (In.ds (Co.lev (Co.mk k1 v1 ds1 ks1) 0 l)) (.slice a (Co.lev (Co.mk k1 v1 ds1 ks1) 0 l).length c) ∧ Below w.heap.size w w' :=
  (lev_all (Co.bulk (Co.mk k1 v1 ds1 ks1) + 1) w k1 v1 ds1 ks1 ads1 cds1 aks1 cks1 b1 o1 0 l (.slice none 0 0) [] w (by omega) (by omega) (by omega) hl (by omega) (by simp; omega) x0 x1 x2 x3 hr (Below.refl _ _) (World.ownsRow_nil _ _ _ _)).mono
    fun e w' h => by obtain ⟨a, c, h1, h2, h3, -⟩ := lev_res ⟨hl, by omega⟩ hM h; exact ⟨a, c, h1, h2, h3⟩

def StrW (N : Nat) : Prop := ∀ (k1 : Int) (v1 : Int) (ds1 : List Int) (ks1 : List Co) (ads1 : Option Addr) (cds1 : Nat) (aks1 : Option Addr) (cks1 : Nat) (b1 o1 : Nat) (l : Int) (w : World), Co.bulk (Co.mk k1 v1 ds1 ks1) < N → Co.bulk (Co.mk k1 v1 ds1 ks1) ≤ 1048576 → 0 ≤ l → l ≤ 9 → Co.good (Co.mk k1 v1 ds1 ks1) = true → w.cell? ⟨b1, o1, none⟩ = some (.int .i64 k1) → w.cell? ⟨b1, o1 + 1, none⟩ = some (.int .i64 v1) → w.cell? ⟨b1, o1 + 2, none⟩ = some (.slice ads1 ds1.length cds1) → w.cell? ⟨b1, o1 + 3, none⟩ = some (.slice aks1 ks1.length cks1) → RdS w (Co.d (Co.mk k1 v1 ds1 ks1)) [.int .i64 k1, .int .i64 v1, .slice ads1 ds1.length cds1, .slice aks1 ks1.length cks1] →
  Calls Try.prog 71 #[.pointer (some ⟨b1, o1, none⟩), .int .i64 l] w fun e w' => e = .returned (.bool (Co.strat (Co.mk k1 v1 ds1 ks1) l)) ∧ Below w.heap.size w w'
set_option maxRecDepth 100000 in
set_option maxHeartbeats 4000000 in
theorem str_step (N : Nat) (ih : StrW N) : StrW (N + 1) := by
  intro k1 v1 ds1 ks1 ads1 cds1 aks1 cks1 b1 o1 l w hN hM hl0 hl9 hg x0 x1 x2 x3 hr
  have hbk : Co.bulk (Co.mk k1 v1 ds1 ks1) = In.bulks ds1 + Co.bulks ks1 := rfl
  have HE := hid (show Co.strat (Co.mk k1 v1 ds1 ks1) l = (decide (l ≤ 8) && (nodeOk k1 ks1 l && Co.strats ks1 (if k1 = 6 then l + 1 else l))) from rfl)
  have hgd : Co.good (Co.mk k1 v1 ds1 ks1) = (okCo k1 v1 ds1 ks1.length && Co.goods ks1) := rfl
  rw [hgd, Bool.and_eq_true] at hg
  by_cases hl8 : l ≤ 8
  case neg =>
    have hb8 : decide (8 < l) = true := by simp; omega
    have HF := hid (show Co.strat (Co.mk k1 v1 ds1 ks1) l = false by rw [HE.out]; simp; omega)
    clear x0 x1 x2 x3 hr ih hN hM hg hgd hbk HE hl8 hl0 hl9
    go_enter Try.func71, Try.ntmps71
    go_wp2_with fail
    go_ret
    exact ⟨ret_bool HF.out.symm, Below.refl _ _⟩
  case pos =>
  have hb8 : decide (8 < l) = false := by simp; omega
  have HE2 := hid (show Co.strat (Co.mk k1 v1 ds1 ks1) l = (nodeOk k1 ks1 l && Co.strats ks1 (if k1 = 6 then l + 1 else l)) by rw [HE.out]; simp [hl8])
  clear HE hl9
  obtain ⟨_, _, e, h2, h3, h4⟩ := hr.fCo.2.2.2.eCo
  simp only [Value.slice.injEq, true_and] at e
  obtain ⟨rfl, rfl⟩ := e
  have IH := hid ih
  have H4 := hid h4
  have HK := hid hbk
  have HN := hid hN
  have HM := hid hM
  have HG := hid hg.2
  have X0 := hid x0
  have X3 := hid x3
  have XL := hid (World.block_lt_of_cell? _ _ x3)
  have hcl := Co.bulks_length ks1
  have hlen : ks1.length ≤ 1048576 := by omega
  have HL0 := hid hl0
  have HL8 := hid hl8
  clear ih hr h4 hbk hN hM x1 x2 hcl hgd h2 h3
  by_cases h4 : k1 = 4
  case pos =>
    subst h4
    have hn : ks1.length = 1 := by
      have h := hg.1
      simp only [okCo, Bool.and_eq_true] at h
      have h := h.1
      simp [coN, inR] at h
      omega
    have hlt : 0 < ks1.length := by omega
    have HN1 := hid hn
    clear hg hn
    obtain ⟨b, o, ea, hbl, hall⟩ := H4.out (by omega)
    obtain ⟨t, ht⟩ : ∃ t, ks1[0]? = some t := ⟨_, List.getElem?_eq_getElem hlt⟩
    obtain ⟨k3, v3, ds3, ks3⟩ := t
    obtain ⟨ads3, cds3, aks3, cks3, q0, q1, q2, q3, hrk⟩ := hall 0 k3 v3 ds3 ks3 ht
    clear hall
    subst ea
    have hbg := Co.bulk_get ks1 0 _ ht
    have hc := spec_lev0 k3 v3 ds3 ks3 ads3 cds3 aks3 cks3 b (o + 0 * 4) l w (by omega) (by omega) (by have := HK.out; have := HM.out; omega) q0 q1 q2 q3 hrk
    rw [Nat.zero_mul, Nat.add_zero] at hc
    have HX := hid (show nodeOk 4 ks1 l = lamOk (Co.lev (.mk k3 v3 ds3 ks3) 0 l) l by rw [nodeOk, if_pos rfl, levAt_eq ht])
    generalize hL : Co.lev (.mk k3 v3 ds3 ks3) 0 l = L at hc HX
    have HC := hid hc
    clear hc hrk q0 q1 q2 q3 ht hL hbg
    by_cases hn1 : L.length ≤ 1
    case neg =>
      have hb1 : decide ((1 : Int) < L.length) = true := by simp; omega
      have HF := hid (show Co.strat (Co.mk 4 v1 ds1 ks1) l = false by rw [HE2.out, HX.out, lamOk]; simp; omega)
      clear hn1 HE2 HX hl0 hl8 hlen
      go_enter Try.func71, Try.ntmps71
      go_wp2_with fail
      refine HC.out.mono ?_
      rintro e w1 ⟨a, c, rfl, hrl, hb⟩
      have HB1 := hid hb
      clear hb hrl
      go_wp2_with fail
      go_ret
      exact ⟨ret_bool HF.out.symm, HB1.out⟩
    case pos =>
      have hb1 : decide ((1 : Int) < L.length) = false := by simp; omega
      by_cases ha : allEq L l = true
      case neg =>
        replace ha := (Bool.not_eq_true _).mp ha
        have HF := hid (show Co.strat (Co.mk 4 v1 ds1 ks1) l = false by rw [HE2.out, HX.out, lamOk, ha]; simp)
        have HA := hid ha
        clear hn1 HE2 HX hl0 hl8 hlen ha
        go_enter Try.func71, Try.ntmps71
        go_wp2_with fail
        refine HC.out.mono ?_
        rintro e w1 ⟨a, c, rfl, hrl, hb⟩
        have HB1 := hid hb
        have HV := hid (spec_l06All L a c l w1 hrl)
        clear hb hrl
        go_wp2_with fail
        refine HV.out.mono ?_
        rw [HA.out]
        rintro e w2 ⟨rfl, rfl⟩
        go_wp2_with fail
        go_ret
        exact ⟨ret_bool HF.out.symm, HB1.out⟩
      case pos =>
        have HF := hid (show Co.strat (Co.mk 4 v1 ds1 ks1) l = Co.strats ks1 l by rw [HE2.out, HX.out, lamOk, ha]; simp [hn1])
        have HA := hid ha
        clear hn1 HE2 HX hl0 hl8 ha
        go_enter Try.func71, Try.ntmps71
        go_wp2_with fail
        refine HC.out.mono ?_
        rintro e w1 ⟨a, c, rfl, hrl, hb⟩
        have HB1 := hid hb
        have HV := hid (spec_l06All L a c l w1 hrl)
        have y3 := (hb.cell (p := ⟨b1, o1 + 3, none⟩) XL.out).trans X3.out
        have y0 := (hb.cell (p := ⟨b1, o1, none⟩) XL.out).trans X0.out
        clear hb hrl
        go_wp2_with fail
        refine HV.out.mono ?_
        rw [HA.out]
        rintro e w2 ⟨rfl, rfl⟩
        go_wp2_with fail
        clear y3 y0
        go_loopw [7, 8] (fun i _ wr => ∃ (j : Nat), j ≤ ks1.length ∧ i = .int .i64 j ∧ Hid (∀ (i : Nat) t, i < j → ks1[i]? = some t → Co.strat t (l) = true) ∧ Below w.heap.size w wr) (fun i _ _ => ks1.length - (intOf i).toNat)
        case atStart => exact ⟨0, by omega, rfl, fun i t hi => absurd hi (by omega), HB1.out⟩
        case round =>
          obtain ⟨j, hj, rfl, HJ, hb⟩ := hrel
          have z3 := (hb.cell (p := ⟨b1, o1 + 3, none⟩) XL.out).trans X3.out
          have z0 := (hb.cell (p := ⟨b1, o1, none⟩) XL.out).trans X0.out
          by_cases hlt : j < ks1.length
          case pos =>
            obtain ⟨b, o, ea, hbl, hall⟩ := H4.out (by omega)
            first
              | subst ea
              | (simp only [Option.some.injEq, Addr.mk.injEq, and_true] at ea; obtain ⟨rfl, rfl⟩ := ea)
            obtain ⟨t, ht⟩ : ∃ t, ks1[j]? = some t := ⟨_, List.getElem?_eq_getElem hlt⟩
            obtain ⟨k3, v3, ds3, ks3⟩ := t
            obtain ⟨ads3, cds3, aks3, cks3, q0, q1, q2, q3, hrk⟩ := hall j k3 v3 ds3 ks3 ht
            clear hall H4
            have hbg := Co.bulk_get ks1 j _ ht
            have hc := IH.out k3 v3 ds3 ks3 ads3 cds3 aks3 cks3 b (o + j * 4) (l) wr (by have := HK.out; have := HN.out; omega) (by have := HK.out; have := HM.out; omega) (by have := HL0.out; omega) (by have := HL8.out; omega) (Co.goods_get ks1 j _ HG.out ht)
              ((hb.cell (p := ⟨b, o + j * 4, none⟩) hbl).trans q0) ((hb.cell (p := ⟨b, o + j * 4 + 1, none⟩) hbl).trans q1) ((hb.cell (p := ⟨b, o + j * 4 + 2, none⟩) hbl).trans q2) ((hb.cell (p := ⟨b, o + j * 4 + 3, none⟩) hbl).trans q3) (hrk.below hb)
            have HT := hid ht
            by_cases hg : Co.strat (.mk k3 v3 ds3 ks3) (l) = true
            case neg =>
              replace hg := (Bool.not_eq_true _).mp hg
              rw [hg] at hc
              have HC := hid hc
              have HG3 := hid hg
              clear ht hrk q0 q1 q2 q3 hc hg
              go_wp2_with fail
              refine HC.out.mono ?_
              clear HC
              rintro e w1 ⟨rfl, hb1⟩
              have hbw := hb.trans (hb1.mono hb.size)
              clear hb1 z3 z0
              go_wp2_with fail
              go_ret
              exact ⟨ret_bool (by rw [HF.out, Co.strats_no ks1 _ j _ HT.out HG3.out]), hbw⟩
            case pos =>
              rw [hg] at hc
              have HC := hid hc
              have HG3 := hid hg
              clear ht hrk q0 q1 q2 q3 hc hg
              go_wp2_with fail
              refine HC.out.mono ?_
              clear HC
              rintro e w1 ⟨rfl, hb1⟩
              have hbw := hb.trans (hb1.mono hb.size)
              clear hb1 z3 z0
              go_wp2_with fail
              go_roundw
              case rel => exact ⟨j + 1, by omega, by go_num, fun i t hi hti => (Nat.lt_succ_iff_lt_or_eq.1 hi).elim (fun hi => HJ.out i t hi hti) (fun he => by subst he; obtain rfl := Option.some.inj (hti.symm.trans HT.out); exact HG3.out), hbw⟩
              case measure => simp [intOf]; omega
          case neg =>
            go_wp2_with fail
            go_ret
            exact ⟨ret_bool (by rw [HF.out, Co.strats_yes ks1 _ fun i t hti => HJ.out i t (by have := (List.getElem?_eq_some_iff.1 hti).1; omega) hti]), hb⟩
  case neg =>
  by_cases h7 : k1 = 7
  case pos =>
    subst h7
    clear h4
    have hn : ks1.length = 2 := by
      have h := hg.1
      simp only [okCo, Bool.and_eq_true] at h
      have h := h.1
      simp [coN, inR] at h
      omega
    have hlt : 1 < ks1.length := by omega
    have HN1 := hid hn
    clear hg hn
    obtain ⟨b, o, ea, hbl, hall⟩ := H4.out (by omega)
    obtain ⟨t, ht⟩ : ∃ t, ks1[1]? = some t := ⟨_, List.getElem?_eq_getElem hlt⟩
    obtain ⟨k3, v3, ds3, ks3⟩ := t
    obtain ⟨ads3, cds3, aks3, cks3, q0, q1, q2, q3, hrk⟩ := hall 1 k3 v3 ds3 ks3 ht
    clear hall
    subst ea
    have hbg := Co.bulk_get ks1 1 _ ht
    have hc := spec_lev0 k3 v3 ds3 ks3 ads3 cds3 aks3 cks3 b (o + 1 * 4) l w (by omega) (by omega) (by have := HK.out; have := HM.out; omega) q0 q1 q2 q3 hrk
    rw [Nat.one_mul] at hc
    have HX := hid (show nodeOk 7 ks1 l = letOk (Co.lev (.mk k3 v3 ds3 ks3) 0 l) l by rw [nodeOk, if_neg (by decide), if_pos rfl, levAt_eq ht])
    generalize hL : Co.lev (.mk k3 v3 ds3 ks3) 0 l = L at hc HX
    have HC := hid hc
    clear hc hrk q0 q1 q2 q3 ht hL hbg
    by_cases ha : allEq L l = true
    case pos =>
      have HF := hid (show Co.strat (Co.mk 7 v1 ds1 ks1) l = Co.strats ks1 l by rw [HE2.out, HX.out, letOk, ha]; simp)
      have HA := hid ha
      clear HE2 HX hl0 hl8 ha
      go_enter Try.func71, Try.ntmps71
      go_wp2_with fail
      refine HC.out.mono ?_
      rintro e w1 ⟨a, c, rfl, hrl, hb⟩
      have HB1 := hid hb
      have HV := hid (spec_l06All L a c l w1 hrl)
      have y3 := (hb.cell (p := ⟨b1, o1 + 3, none⟩) XL.out).trans X3.out
      have y0 := (hb.cell (p := ⟨b1, o1, none⟩) XL.out).trans X0.out
      clear hb hrl
      go_wp2_with fail
      refine HV.out.mono ?_
      rw [HA.out]
      rintro e w2 ⟨rfl, rfl⟩
      go_wp2_with fail
      clear y3 y0
      go_loopw [7, 8] (fun i _ wr => ∃ (j : Nat), j ≤ ks1.length ∧ i = .int .i64 j ∧ Hid (∀ (i : Nat) t, i < j → ks1[i]? = some t → Co.strat t (l) = true) ∧ Below w.heap.size w wr) (fun i _ _ => ks1.length - (intOf i).toNat)
      case atStart => exact ⟨0, by omega, rfl, fun i t hi => absurd hi (by omega), HB1.out⟩
      case round =>
        obtain ⟨j, hj, rfl, HJ, hb⟩ := hrel
        have z3 := (hb.cell (p := ⟨b1, o1 + 3, none⟩) XL.out).trans X3.out
        have z0 := (hb.cell (p := ⟨b1, o1, none⟩) XL.out).trans X0.out
        by_cases hlt : j < ks1.length
        case pos =>
          obtain ⟨b, o, ea, hbl, hall⟩ := H4.out (by omega)
          first
            | subst ea
            | (simp only [Option.some.injEq, Addr.mk.injEq, and_true] at ea; obtain ⟨rfl, rfl⟩ := ea)
          obtain ⟨t, ht⟩ : ∃ t, ks1[j]? = some t := ⟨_, List.getElem?_eq_getElem hlt⟩
          obtain ⟨k3, v3, ds3, ks3⟩ := t
          obtain ⟨ads3, cds3, aks3, cks3, q0, q1, q2, q3, hrk⟩ := hall j k3 v3 ds3 ks3 ht
          clear hall H4
          have hbg := Co.bulk_get ks1 j _ ht
          have hc := IH.out k3 v3 ds3 ks3 ads3 cds3 aks3 cks3 b (o + j * 4) (l) wr (by have := HK.out; have := HN.out; omega) (by have := HK.out; have := HM.out; omega) (by have := HL0.out; omega) (by have := HL8.out; omega) (Co.goods_get ks1 j _ HG.out ht)
            ((hb.cell (p := ⟨b, o + j * 4, none⟩) hbl).trans q0) ((hb.cell (p := ⟨b, o + j * 4 + 1, none⟩) hbl).trans q1) ((hb.cell (p := ⟨b, o + j * 4 + 2, none⟩) hbl).trans q2) ((hb.cell (p := ⟨b, o + j * 4 + 3, none⟩) hbl).trans q3) (hrk.below hb)
          have HT := hid ht
          by_cases hg : Co.strat (.mk k3 v3 ds3 ks3) (l) = true
          case neg =>
            replace hg := (Bool.not_eq_true _).mp hg
            rw [hg] at hc
            have HC := hid hc
            have HG3 := hid hg
            clear ht hrk q0 q1 q2 q3 hc hg
            go_wp2_with fail
            refine HC.out.mono ?_
            clear HC
            rintro e w1 ⟨rfl, hb1⟩
            have hbw := hb.trans (hb1.mono hb.size)
            clear hb1 z3 z0
            go_wp2_with fail
            go_ret
            exact ⟨ret_bool (by rw [HF.out, Co.strats_no ks1 _ j _ HT.out HG3.out]), hbw⟩
          case pos =>
            rw [hg] at hc
            have HC := hid hc
            have HG3 := hid hg
            clear ht hrk q0 q1 q2 q3 hc hg
            go_wp2_with fail
            refine HC.out.mono ?_
            clear HC
            rintro e w1 ⟨rfl, hb1⟩
            have hbw := hb.trans (hb1.mono hb.size)
            clear hb1 z3 z0
            go_wp2_with fail
            go_roundw
            case rel => exact ⟨j + 1, by omega, by go_num, fun i t hi hti => (Nat.lt_succ_iff_lt_or_eq.1 hi).elim (fun hi => HJ.out i t hi hti) (fun he => by subst he; obtain rfl := Option.some.inj (hti.symm.trans HT.out); exact HG3.out), hbw⟩
            case measure => simp [intOf]; omega
        case neg =>
          go_wp2_with fail
          go_ret
          exact ⟨ret_bool (by rw [HF.out, Co.strats_yes ks1 _ fun i t hti => HJ.out i t (by have := (List.getElem?_eq_some_iff.1 hti).1; omega) hti]), hb⟩
    case neg =>
      replace ha := (Bool.not_eq_true _).mp ha
      have HA := hid ha
      by_cases ha2 : allEq L (l + 1) = true
      case pos =>
        have HF := hid (show Co.strat (Co.mk 7 v1 ds1 ks1) l = Co.strats ks1 l by rw [HE2.out, HX.out, letOk, ha2]; simp)
        have HA2 := hid ha2
        clear HE2 HX ha ha2
        go_enter Try.func71, Try.ntmps71
        go_wp2_with fail
        refine HC.out.mono ?_
        rintro e w1 ⟨a, c, rfl, hrl, hb⟩
        have HB1 := hid hb
        have HV := hid (spec_l06All L a c l w1 hrl)
        have HV2 := hid (spec_l06All L a c (l + 1) w1 hrl)
        have y3 := (hb.cell (p := ⟨b1, o1 + 3, none⟩) XL.out).trans X3.out
        have y0 := (hb.cell (p := ⟨b1, o1, none⟩) XL.out).trans X0.out
        clear hb hrl
        go_wp2_with fail
        refine HV.out.mono ?_
        rw [HA.out]
        rintro e w2 ⟨rfl, rfl⟩
        go_wp2_with fail
        refine HV2.out.mono ?_
        rw [HA2.out]
        rintro e w2 ⟨rfl, rfl⟩
        go_wp2_with fail
        clear y3 y0 hl0 hl8
        go_loopw [7, 8] (fun i _ wr => ∃ (j : Nat), j ≤ ks1.length ∧ i = .int .i64 j ∧ Hid (∀ (i : Nat) t, i < j → ks1[i]? = some t → Co.strat t (l) = true) ∧ Below w.heap.size w wr) (fun i _ _ => ks1.length - (intOf i).toNat)
        case atStart => exact ⟨0, by omega, rfl, fun i t hi => absurd hi (by omega), HB1.out⟩
        case round =>
          obtain ⟨j, hj, rfl, HJ, hb⟩ := hrel
          have z3 := (hb.cell (p := ⟨b1, o1 + 3, none⟩) XL.out).trans X3.out
          have z0 := (hb.cell (p := ⟨b1, o1, none⟩) XL.out).trans X0.out
          by_cases hlt : j < ks1.length
          case pos =>
            obtain ⟨b, o, ea, hbl, hall⟩ := H4.out (by omega)
            first
              | subst ea
              | (simp only [Option.some.injEq, Addr.mk.injEq, and_true] at ea; obtain ⟨rfl, rfl⟩ := ea)
            obtain ⟨t, ht⟩ : ∃ t, ks1[j]? = some t := ⟨_, List.getElem?_eq_getElem hlt⟩
            obtain ⟨k3, v3, ds3, ks3⟩ := t
            obtain ⟨ads3, cds3, aks3, cks3, q0, q1, q2, q3, hrk⟩ := hall j k3 v3 ds3 ks3 ht
            clear hall H4
            have hbg := Co.bulk_get ks1 j _ ht
            have hc := IH.out k3 v3 ds3 ks3 ads3 cds3 aks3 cks3 b (o + j * 4) (l) wr (by have := HK.out; have := HN.out; omega) (by have := HK.out; have := HM.out; omega) (by have := HL0.out; omega) (by have := HL8.out; omega) (Co.goods_get ks1 j _ HG.out ht)
              ((hb.cell (p := ⟨b, o + j * 4, none⟩) hbl).trans q0) ((hb.cell (p := ⟨b, o + j * 4 + 1, none⟩) hbl).trans q1) ((hb.cell (p := ⟨b, o + j * 4 + 2, none⟩) hbl).trans q2) ((hb.cell (p := ⟨b, o + j * 4 + 3, none⟩) hbl).trans q3) (hrk.below hb)
            have HT := hid ht
            by_cases hg : Co.strat (.mk k3 v3 ds3 ks3) (l) = true
            case neg =>
              replace hg := (Bool.not_eq_true _).mp hg
              rw [hg] at hc
              have HC := hid hc
              have HG3 := hid hg
              clear ht hrk q0 q1 q2 q3 hc hg
              go_wp2_with fail
              refine HC.out.mono ?_
              clear HC
              rintro e w1 ⟨rfl, hb1⟩
              have hbw := hb.trans (hb1.mono hb.size)
              clear hb1 z3 z0
              go_wp2_with fail
              go_ret
              exact ⟨ret_bool (by rw [HF.out, Co.strats_no ks1 _ j _ HT.out HG3.out]), hbw⟩
            case pos =>
              rw [hg] at hc
              have HC := hid hc
              have HG3 := hid hg
              clear ht hrk q0 q1 q2 q3 hc hg
              go_wp2_with fail
              refine HC.out.mono ?_
              clear HC
              rintro e w1 ⟨rfl, hb1⟩
              have hbw := hb.trans (hb1.mono hb.size)
              clear hb1 z3 z0
              go_wp2_with fail
              go_roundw
              case rel => exact ⟨j + 1, by omega, by go_num, fun i t hi hti => (Nat.lt_succ_iff_lt_or_eq.1 hi).elim (fun hi => HJ.out i t hi hti) (fun he => by subst he; obtain rfl := Option.some.inj (hti.symm.trans HT.out); exact HG3.out), hbw⟩
              case measure => simp [intOf]; omega
          case neg =>
            go_wp2_with fail
            go_ret
            exact ⟨ret_bool (by rw [HF.out, Co.strats_yes ks1 _ fun i t hti => HJ.out i t (by have := (List.getElem?_eq_some_iff.1 hti).1; omega) hti]), hb⟩
      case neg =>
        replace ha2 := (Bool.not_eq_true _).mp ha2
        have HF := hid (show Co.strat (Co.mk 7 v1 ds1 ks1) l = false by rw [HE2.out, HX.out, letOk, ha, ha2]; simp)
        have HA2 := hid ha2
        clear HE2 HX ha ha2 hlen
        go_enter Try.func71, Try.ntmps71
        go_wp2_with fail
        refine HC.out.mono ?_
        rintro e w1 ⟨a, c, rfl, hrl, hb⟩
        have HB1 := hid hb
        have HV := hid (spec_l06All L a c l w1 hrl)
        have HV2 := hid (spec_l06All L a c (l + 1) w1 hrl)
        clear hb hrl
        go_wp2_with fail
        refine HV.out.mono ?_
        rw [HA.out]
        rintro e w2 ⟨rfl, rfl⟩
        go_wp2_with fail
        refine HV2.out.mono ?_
        rw [HA2.out]
        rintro e w2 ⟨rfl, rfl⟩
        go_wp2_with fail
        go_ret
        exact ⟨ret_bool HF.out.symm, HB1.out⟩
  case neg =>
  have g4 : (k1 == 4) = false := by simp [h4]
  have g7 : (k1 == 7) = false := by simp [h7]
  have hnode : nodeOk k1 ks1 l = true := by rw [nodeOk, if_neg h4, if_neg h7]
  by_cases h6 : k1 = 6
  case pos =>
    have HF := hid (show Co.strat (Co.mk k1 v1 ds1 ks1) l = Co.strats ks1 (l + 1) by rw [HE2.out, hnode, if_pos h6]; rfl)
    subst h6
    clear h4 h7 hnode hg HE2
    go_enter Try.func71, Try.ntmps71
    go_wp2_with fail
    go_loopw [7, 8] (fun i _ wr => ∃ (j : Nat), j ≤ ks1.length ∧ i = .int .i64 j ∧ Hid (∀ (i : Nat) t, i < j → ks1[i]? = some t → Co.strat t (l + 1) = true) ∧ Below w.heap.size w wr) (fun i _ _ => ks1.length - (intOf i).toNat)
    case atStart => exact ⟨0, by omega, rfl, fun i t hi => absurd hi (by omega), Below.refl _ _⟩
    case round =>
      obtain ⟨j, hj, rfl, HJ, hb⟩ := hrel
      have z3 := (hb.cell (p := ⟨b1, o1 + 3, none⟩) XL.out).trans X3.out
      have z0 := (hb.cell (p := ⟨b1, o1, none⟩) XL.out).trans X0.out
      by_cases hlt : j < ks1.length
      case pos =>
        obtain ⟨b, o, ea, hbl, hall⟩ := H4.out (by omega)
        first
          | subst ea
          | (simp only [Option.some.injEq, Addr.mk.injEq, and_true] at ea; obtain ⟨rfl, rfl⟩ := ea)
        obtain ⟨t, ht⟩ : ∃ t, ks1[j]? = some t := ⟨_, List.getElem?_eq_getElem hlt⟩
        obtain ⟨k3, v3, ds3, ks3⟩ := t
        obtain ⟨ads3, cds3, aks3, cks3, q0, q1, q2, q3, hrk⟩ := hall j k3 v3 ds3 ks3 ht
        clear hall H4
        have hbg := Co.bulk_get ks1 j _ ht
        have hc := IH.out k3 v3 ds3 ks3 ads3 cds3 aks3 cks3 b (o + j * 4) (l + 1) wr (by have := HK.out; have := HN.out; omega) (by have := HK.out; have := HM.out; omega) (by have := HL0.out; omega) (by have := HL8.out; omega) (Co.goods_get ks1 j _ HG.out ht)
          ((hb.cell (p := ⟨b, o + j * 4, none⟩) hbl).trans q0) ((hb.cell (p := ⟨b, o + j * 4 + 1, none⟩) hbl).trans q1) ((hb.cell (p := ⟨b, o + j * 4 + 2, none⟩) hbl).trans q2) ((hb.cell (p := ⟨b, o + j * 4 + 3, none⟩) hbl).trans q3) (hrk.below hb)
        have HT := hid ht
        by_cases hg : Co.strat (.mk k3 v3 ds3 ks3) (l + 1) = true
        case neg =>
          replace hg := (Bool.not_eq_true _).mp hg
          rw [hg] at hc
          have HC := hid hc
          have HG3 := hid hg
          clear ht hrk q0 q1 q2 q3 hc hg
          go_wp2_with fail
          refine HC.out.mono ?_
          clear HC
          rintro e w1 ⟨rfl, hb1⟩
          have hbw := hb.trans (hb1.mono hb.size)
          clear hb1 z3 z0
          go_wp2_with fail
          go_ret
          exact ⟨ret_bool (by rw [HF.out, Co.strats_no ks1 _ j _ HT.out HG3.out]), hbw⟩
        case pos =>
          rw [hg] at hc
          have HC := hid hc
          have HG3 := hid hg
          clear ht hrk q0 q1 q2 q3 hc hg
          go_wp2_with fail
          refine HC.out.mono ?_
          clear HC
          rintro e w1 ⟨rfl, hb1⟩
          have hbw := hb.trans (hb1.mono hb.size)
          clear hb1 z3 z0
          go_wp2_with fail
          go_roundw
          case rel => exact ⟨j + 1, by omega, by go_num, fun i t hi hti => (Nat.lt_succ_iff_lt_or_eq.1 hi).elim (fun hi => HJ.out i t hi hti) (fun he => by subst he; obtain rfl := Option.some.inj (hti.symm.trans HT.out); exact HG3.out), hbw⟩
          case measure => simp [intOf]; omega
      case neg =>
        go_wp2_with fail
        go_ret
        exact ⟨ret_bool (by rw [HF.out, Co.strats_yes ks1 _ fun i t hti => HJ.out i t (by have := (List.getElem?_eq_some_iff.1 hti).1; omega) hti]), hb⟩
  case neg =>
    have g6 : (k1 == 6) = false := by simp [h6]
    have HF := hid (show Co.strat (Co.mk k1 v1 ds1 ks1) l = Co.strats ks1 l by rw [HE2.out, hnode, if_neg h6]; rfl)
    clear h4 h7 h6 hnode hg HE2 hl0 hl8
    go_enter Try.func71, Try.ntmps71
    go_wp2_with fail
    go_loopw [7, 8] (fun i _ wr => ∃ (j : Nat), j ≤ ks1.length ∧ i = .int .i64 j ∧ Hid (∀ (i : Nat) t, i < j → ks1[i]? = some t → Co.strat t (l) = true) ∧ Below w.heap.size w wr) (fun i _ _ => ks1.length - (intOf i).toNat)
    case atStart => exact ⟨0, by omega, rfl, fun i t hi => absurd hi (by omega), Below.refl _ _⟩
    case round =>
      obtain ⟨j, hj, rfl, HJ, hb⟩ := hrel
      have z3 := (hb.cell (p := ⟨b1, o1 + 3, none⟩) XL.out).trans X3.out
      have z0 := (hb.cell (p := ⟨b1, o1, none⟩) XL.out).trans X0.out
      by_cases hlt : j < ks1.length
      case pos =>
        obtain ⟨b, o, ea, hbl, hall⟩ := H4.out (by omega)
        first
          | subst ea
          | (simp only [Option.some.injEq, Addr.mk.injEq, and_true] at ea; obtain ⟨rfl, rfl⟩ := ea)
        obtain ⟨t, ht⟩ : ∃ t, ks1[j]? = some t := ⟨_, List.getElem?_eq_getElem hlt⟩
        obtain ⟨k3, v3, ds3, ks3⟩ := t
        obtain ⟨ads3, cds3, aks3, cks3, q0, q1, q2, q3, hrk⟩ := hall j k3 v3 ds3 ks3 ht
        clear hall H4
        have hbg := Co.bulk_get ks1 j _ ht
        have hc := IH.out k3 v3 ds3 ks3 ads3 cds3 aks3 cks3 b (o + j * 4) (l) wr (by have := HK.out; have := HN.out; omega) (by have := HK.out; have := HM.out; omega) (by have := HL0.out; omega) (by have := HL8.out; omega) (Co.goods_get ks1 j _ HG.out ht)
          ((hb.cell (p := ⟨b, o + j * 4, none⟩) hbl).trans q0) ((hb.cell (p := ⟨b, o + j * 4 + 1, none⟩) hbl).trans q1) ((hb.cell (p := ⟨b, o + j * 4 + 2, none⟩) hbl).trans q2) ((hb.cell (p := ⟨b, o + j * 4 + 3, none⟩) hbl).trans q3) (hrk.below hb)
        have HT := hid ht
        by_cases hg : Co.strat (.mk k3 v3 ds3 ks3) (l) = true
        case neg =>
          replace hg := (Bool.not_eq_true _).mp hg
          rw [hg] at hc
          have HC := hid hc
          have HG3 := hid hg
          clear ht hrk q0 q1 q2 q3 hc hg
          go_wp2_with fail
          refine HC.out.mono ?_
          clear HC
          rintro e w1 ⟨rfl, hb1⟩
          have hbw := hb.trans (hb1.mono hb.size)
          clear hb1 z3 z0
          go_wp2_with fail
          go_ret
          exact ⟨ret_bool (by rw [HF.out, Co.strats_no ks1 _ j _ HT.out HG3.out]), hbw⟩
        case pos =>
          rw [hg] at hc
          have HC := hid hc
          have HG3 := hid hg
          clear ht hrk q0 q1 q2 q3 hc hg
          go_wp2_with fail
          refine HC.out.mono ?_
          clear HC
          rintro e w1 ⟨rfl, hb1⟩
          have hbw := hb.trans (hb1.mono hb.size)
          clear hb1 z3 z0
          go_wp2_with fail
          go_roundw
          case rel => exact ⟨j + 1, by omega, by go_num, fun i t hi hti => (Nat.lt_succ_iff_lt_or_eq.1 hi).elim (fun hi => HJ.out i t hi hti) (fun he => by subst he; obtain rfl := Option.some.inj (hti.symm.trans HT.out); exact HG3.out), hbw⟩
          case measure => simp [intOf]; omega
      case neg =>
        go_wp2_with fail
        go_ret
        exact ⟨ret_bool (by rw [HF.out, Co.strats_yes ks1 _ fun i t hti => HJ.out i t (by have := (List.getElem?_eq_some_iff.1 hti).1; omega) hti]), hb⟩
theorem str_all : ∀ N, StrW N
  | 0 => fun _ _ _ _ _ _ _ _ _ _ _ _  h => absurd h (by omega)
  | N + 1 => str_step N (str_all N)
end Go.Proofs.Ytgbiefjokohkkaa
