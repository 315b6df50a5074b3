/- Merged texts: Dep CoCount Ins Three One Five Con2 NorK Inn. No condition. -/
import Derived.Test.YtejdbmeoaekhcaaAtC
import Derived.Test.YtejdbmeoaekhcaaCoClosed
import Derived.Test.YtejdbmeoaekhcaaPut
import Derived.Test.YtejdbmeoaekhcaaCoNodes
import Derived.Test.YtejdbmeoaekhcaaFrame
import Derived.Test.YtejdbmeoaekhcaaTwo
import Derived.Test.YtejdbmeoaekhcaaExp
import Derived.Test.YtejdbmeoaekhcaaCho
import Derived.Deep.RegionHeld3
import Derived.Test.YtejdbmeoaekhcaaNorP
import Derived.BigQuiet
import Derived.Deep.CutRange
import Derived.Deep.AppendLies
/- was: Dep -/
namespace Go.Proofs.Ytejdbmeoaekhcaa
open Go.ChangeShapes Go.WideShapes Go.ChangeAt Go.RowKit
open Go.Sort (grow)
set_option linter.unusedVariables false

theorem spec_max (a b : Int) (w : World) : Calls Try.prog 97 #[.int .i64 a, .int .i64 b] w (GivesInt w) := by
  by_cases h : b < a
  · go_enter Try.func97, Try.ntmps97
    go_wp2_with fail
    go_ret
    exact ⟨_, rfl, Below.refl _ _⟩
  · go_enter Try.func97, Try.ntmps97
    go_wp2_with fail
    go_ret
    exact ⟨_, rfl, Below.refl _ _⟩
def depW (N : Nat) : Prop := ∀ (t : Co) (b1 o1 : Nat) (w : World), Co.bulk t < N → AtC w b1 o1 t → Calls Try.prog 81 #[.pointer (some ⟨b1, o1, none⟩)] w (GivesInt w)
set_option maxHeartbeats 1000000 in
theorem dep_step (N : Nat) (ih : depW N) : depW (N + 1) := by
  intro t b1 o1 w hN hat
  obtain ⟨k1, v1, ds1, ks1⟩ := t
  have hbk : Co.bulk (Co.mk k1 v1 ds1 ks1) = In.bulks ds1 + Co.bulks ks1 := rfl
  have AT := hid hat
  obtain ⟨ads1, cds1, aks, cks, x0, x1, x2, x3, hr⟩ := hat
  obtain ⟨aks1, cks1, e, hc1, hc2, hall⟩ := kids_at hr.fCo.2.2.2
  simp only [Value.slice.injEq, true_and] at e
  obtain ⟨rfl, rfl⟩ := e
  have hlen : ks1.length ≤ 9223372036854775807 := Nat.le_trans hc1 hc2
  have HALL := hid hall
  have HBK := hid (show Co.bulks ks1 < N + 1 by omega)
  have IH := hid ih
  have X0 := hid x0
  have X1 := hid x1
  have X3 := hid x3
  have XL := hid (World.block_lt_of_cell? _ _ x3)
  clear hr hall hbk hN ih x2
  go_enter Try.func81, Try.ntmps81
  go_wp2_with fail
  go_loopw [3, 4] (fun n i wr => ∃ (j : Nat) (m : Int), j ≤ ks1.length ∧ i = .int .i64 j ∧ n = .int .i64 m ∧ Below w.heap.size w wr) (fun _ i _ => ks1.length - (intOf i).toNat)
  case atStart => exact ⟨0, _, by omega, rfl, rfl, Below.refl _ _⟩
  case round =>
    obtain ⟨j, m, hj, rfl, rfl, hb⟩ := hrel
    have z3 := (hb.cell (p := ⟨b1, o1 + 3, none⟩) XL.out).trans X3.out
    by_cases hlt : j < ks1.length
    case neg =>
      go_wp2_with fail
      go_ret
      exact ⟨_, rfl, hb⟩
    case pos =>
      obtain ⟨b, o, rfl, hbl, hall⟩ := HALL.out (by omega)
      obtain ⟨t, ht⟩ : ∃ t, ks1[j]? = some t := ⟨_, List.getElem?_eq_getElem hlt⟩
      have hc := IH.out t b (o + j * 4) wr (by have := Co.bulk_get ks1 j _ ht; have := HBK.out; omega) ((hall j t ht).below hb)
      have HC := hid hc
      clear hc hall ht HALL
      go_wp2_with fail
      refine HC.out.mono ?_
      rintro e w1 ⟨r1, rfl, hb1⟩
      have HB1 := hid (hb.trans (hb1.mono hb.size))
      clear hb1 HC
      go_wp2_with fail
      refine (spec_max _ _ _).mono ?_
      rintro e w2 ⟨r2, rfl, hb2⟩
      have HB2 := hid (HB1.out.trans (hb2.mono HB1.out.size))
      clear hb2 z3
      go_wp2_with fail
      go_roundw
      case rel => exact ⟨j + 1, r2, by omega, by go_num, rfl, HB2.out⟩
      case measure => simp [intOf]; omega
theorem dep_all : ∀ N, depW N
  | 0 => fun _ _ _ _ h => absurd h (by omega)
  | N + 1 => dep_step N (dep_all N)
def higW (N : Nat) : Prop := ∀ (t : Co) (b1 o1 : Nat) (w : World), Co.bulk t < N → AtC w b1 o1 t → Calls Try.prog 82 #[.pointer (some ⟨b1, o1, none⟩)] w (GivesInt w)
set_option maxHeartbeats 1000000 in
theorem hig_step (N : Nat) (ih : higW N) : higW (N + 1) := by
  intro t b1 o1 w hN hat
  obtain ⟨k1, v1, ds1, ks1⟩ := t
  have hbk : Co.bulk (Co.mk k1 v1 ds1 ks1) = In.bulks ds1 + Co.bulks ks1 := rfl
  have AT := hid hat
  obtain ⟨ads1, cds1, aks, cks, x0, x1, x2, x3, hr⟩ := hat
  obtain ⟨aks1, cks1, e, hc1, hc2, hall⟩ := kids_at hr.fCo.2.2.2
  simp only [Value.slice.injEq, true_and] at e
  obtain ⟨rfl, rfl⟩ := e
  have hlen : ks1.length ≤ 9223372036854775807 := Nat.le_trans hc1 hc2
  have HALL := hid hall
  have HBK := hid (show Co.bulks ks1 < N + 1 by omega)
  have IH := hid ih
  have X0 := hid x0
  have X1 := hid x1
  have X3 := hid x3
  have XL := hid (World.block_lt_of_cell? _ _ x3)
  clear hr hall hbk hN ih x2
  by_cases h1 : k1 = 1
  case pos =>
    subst h1
    go_enter Try.func82, Try.ntmps82
    go_wp2_with fail
    go_loopw [3, 4] (fun n i wr => ∃ (j : Nat) (m : Int), j ≤ ks1.length ∧ i = .int .i64 j ∧ n = .int .i64 m ∧ Below w.heap.size w wr) (fun _ i _ => ks1.length - (intOf i).toNat)
    case atStart => exact ⟨0, _, by omega, rfl, rfl, Below.refl _ _⟩
    case round =>
      obtain ⟨j, m, hj, rfl, rfl, hb⟩ := hrel
      have z3 := (hb.cell (p := ⟨b1, o1 + 3, none⟩) XL.out).trans X3.out
      by_cases hlt : j < ks1.length
      case neg =>
        go_wp2_with fail
        go_ret
        exact ⟨_, rfl, hb⟩
      case pos =>
        obtain ⟨b, o, rfl, hbl, hall⟩ := HALL.out (by omega)
        obtain ⟨t, ht⟩ : ∃ t, ks1[j]? = some t := ⟨_, List.getElem?_eq_getElem hlt⟩
        have hc := IH.out t b (o + j * 4) wr (by have := Co.bulk_get ks1 j _ ht; have := HBK.out; omega) ((hall j t ht).below hb)
        have HC := hid hc
        clear hc hall ht HALL
        go_wp2_with fail
        refine HC.out.mono ?_
        rintro e w1 ⟨r1, rfl, hb1⟩
        have HB1 := hid (hb.trans (hb1.mono hb.size))
        clear hb1 HC
        go_wp2_with fail
        refine (spec_max _ _ _).mono ?_
        rintro e w2 ⟨r2, rfl, hb2⟩
        have HB2 := hid (HB1.out.trans (hb2.mono HB1.out.size))
        clear hb2 z3
        go_wp2_with fail
        go_roundw
        case rel => exact ⟨j + 1, r2, by omega, by go_num, rfl, HB2.out⟩
        case measure => simp [intOf]; omega
  case neg =>
    have g1 : (k1 == 1) = false := by simp [h1]
    clear h1
    go_enter Try.func82, Try.ntmps82
    go_wp2_with fail
    go_loopw [3, 4] (fun n i wr => ∃ (j : Nat) (m : Int), j ≤ ks1.length ∧ i = .int .i64 j ∧ n = .int .i64 m ∧ Below w.heap.size w wr) (fun _ i _ => ks1.length - (intOf i).toNat)
    case atStart => exact ⟨0, _, by omega, rfl, rfl, Below.refl _ _⟩
    case round =>
      obtain ⟨j, m, hj, rfl, rfl, hb⟩ := hrel
      have z3 := (hb.cell (p := ⟨b1, o1 + 3, none⟩) XL.out).trans X3.out
      by_cases hlt : j < ks1.length
      case neg =>
        go_wp2_with fail
        go_ret
        exact ⟨_, rfl, hb⟩
      case pos =>
        obtain ⟨b, o, rfl, hbl, hall⟩ := HALL.out (by omega)
        obtain ⟨t, ht⟩ : ∃ t, ks1[j]? = some t := ⟨_, List.getElem?_eq_getElem hlt⟩
        have hc := IH.out t b (o + j * 4) wr (by have := Co.bulk_get ks1 j _ ht; have := HBK.out; omega) ((hall j t ht).below hb)
        have HC := hid hc
        clear hc hall ht HALL
        go_wp2_with fail
        refine HC.out.mono ?_
        rintro e w1 ⟨r1, rfl, hb1⟩
        have HB1 := hid (hb.trans (hb1.mono hb.size))
        clear hb1 HC
        go_wp2_with fail
        refine (spec_max _ _ _).mono ?_
        rintro e w2 ⟨r2, rfl, hb2⟩
        have HB2 := hid (HB1.out.trans (hb2.mono HB1.out.size))
        clear hb2 z3
        go_wp2_with fail
        go_roundw
        case rel => exact ⟨j + 1, r2, by omega, by go_num, rfl, HB2.out⟩
        case measure => simp [intOf]; omega
theorem hig_all : ∀ N, higW N
  | 0 => fun _ _ _ _ h => absurd h (by omega)
  | N + 1 => hig_step N (hig_all N)
end Go.Proofs.Ytejdbmeoaekhcaa
/- was: CoCount -/
namespace Go.Proofs.Ytejdbmeoaekhcaa
open Go.ChangeShapes Go.WideShapes Go.ChangeAt Go.RowKit Go.BigFrame
open Go.Sort (grow)
set_option linter.unusedVariables false

mutual
/-- How often the variable d occurs. -/
def Co.cou : Co → Int → Int
  | .mk k v _ ks, d => if k = 1 then (if v = d then 1 else 0) else Co.cous k 0 ks d
def Co.cous : Int → Nat → List Co → Int → Int
  | _, _, [], _ => 0
  | k, i, t :: ts, d => Co.cou t (wrap64 (d + bindsOf k i)) + Co.cous k (i + 1) ts d
end
mutual
theorem Co.cou_bd : ∀ (t : Co) (d : Int), 0 ≤ Co.cou t d ∧ Co.cou t d ≤ 1 + Co.bulk t
  | .mk k v ds ks, d => by
    have := Co.cous_bd k 0 ks d
    simp only [Co.cou, Co.bulk]
    split
    · split <;> omega
    · omega
theorem Co.cous_bd : ∀ (k : Int) (i : Nat) (ts : List Co) (d : Int), 0 ≤ Co.cous k i ts d ∧ Co.cous k i ts d ≤ Co.bulks ts
  | k, i, [], d => by simp [Co.cous]
  | k, i, t :: ts, d => by
    have h1 := Co.cou_bd t (wrap64 (d + bindsOf k i))
    have h2 := Co.cous_bd k (i + 1) ts d
    simp only [Co.cous, Co.bulks]; omega
end
theorem Co.cous_take : ∀ (k : Int) (i : Nat) (ts : List Co) (d : Int) (j : Nat) (t : Co), ts[j]? = some t →
    Co.cous k i (ts.take (j + 1)) d = Co.cous k i (ts.take j) d + Co.cou t (wrap64 (d + bindsOf k (i + j : Nat)))
  | k, i, [], d, j, t, h => by simp at h
  | k, i, u :: ts, d, 0, t, h => by simp at h; subst h; simp [Co.cous]
  | k, i, u :: ts, d, j + 1, t, h => by
    have e := Co.cous_take k (i + 1) ts d j t (by simpa using h)
    rw [List.take_succ_cons, List.take_succ_cons, Co.cous, Co.cous, e, Int.add_assoc, show i + 1 + j = i + (j + 1) by omega]
theorem Co.cous_le : ∀ (k : Int) (i : Nat) (ts : List Co) (d : Int) (j : Nat), Co.cous k i (ts.take j) d ≤ Co.bulks ts
  | k, i, [], d, j => by simp [Co.cous]
  | k, i, u :: ts, d, 0 => by simp [Co.cous]
  | k, i, u :: ts, d, j + 1 => by
    have h1 := Co.cou_bd u (wrap64 (d + bindsOf k i))
    have h2 := Co.cous_le k (i + 1) ts d j
    rw [List.take_succ_cons, Co.cous, Co.bulks]; omega

def CouW (N : Nat) : Prop := ∀ (k1 : Int) (v1 : Int) (ds1 : List Int) (ks1 : List Co) (ads1 : Option Addr) (cds1 : Nat) (aks1 : Option Addr) (cks1 : Nat) (b1 o1 : Nat) (d : Int) (w : World), Co.bulk (Co.mk k1 v1 ds1 ks1) < N → Co.bulk (Co.mk k1 v1 ds1 ks1) ≤ 1048576 → w.cell? ⟨b1, o1, none⟩ = some (.int .i64 k1) → w.cell? ⟨b1, o1 + 1, none⟩ = some (.int .i64 v1) → w.cell? ⟨b1, o1 + 2, none⟩ = some (.slice ads1 ds1.length cds1) → w.cell? ⟨b1, o1 + 3, none⟩ = some (.slice aks1 ks1.length cks1) → RdS w (Co.d (Co.mk k1 v1 ds1 ks1)) [.int .i64 k1, .int .i64 v1, .slice ads1 ds1.length cds1, .slice aks1 ks1.length cks1] →
  Calls Try.prog 79 #[.pointer (some ⟨b1, o1, none⟩), .int .i64 d] w fun e w' => e = .returned (.int .i64 (Co.cou (Co.mk k1 v1 ds1 ks1) d)) ∧ Below w.heap.size w w'
set_option maxHeartbeats 1000000 in
theorem cou_step (N : Nat) (ih : CouW N) : CouW (N + 1) := by
  intro k1 v1 ds1 ks1 ads1 cds1 aks1 cks1 b1 o1 d w hN hM x0 x1 x2 x3 hr
  have hbk : Co.bulk (Co.mk k1 v1 ds1 ks1) = In.bulks ds1 + Co.bulks ks1 := rfl
  have HE := hid (show Co.cou (Co.mk k1 v1 ds1 ks1) d = if k1 = 1 then (if v1 = d then 1 else 0) else Co.cous k1 0 ks1 d from rfl)
  by_cases h1 : k1 = 1
  case pos =>
    subst h1
    by_cases hv : v1 = d
    case pos =>
      subst hv
      have HF := hid (show Co.cou (Co.mk 1 v1 ds1 ks1) v1 = 1 by rw [HE.out]; simp)
      clear x2 x3 hr ih hM hN hbk HE
      go_enter Try.func79, Try.ntmps79
      go_wp2_with fail
      go_ret
      exact ⟨ret_int (by rw [HF.out]), Below.refl _ _⟩
    case neg =>
      have hvb : (v1 == d) = false := by simp [hv]
      have HF := hid (show Co.cou (Co.mk 1 v1 ds1 ks1) d = 0 by rw [HE.out]; simp [hv])
      clear hv x2 x3 hr ih hM hN hbk HE
      go_enter Try.func79, Try.ntmps79
      go_wp2_with fail
      go_ret
      exact ⟨ret_int (by rw [HF.out]), Below.refl _ _⟩
  case neg =>
    have g1 : (k1 == 1) = false := by simp [h1]
    have HF := hid (show Co.cou (Co.mk k1 v1 ds1 ks1) d = Co.cous k1 0 ks1 d by rw [HE.out]; simp [h1])
    obtain ⟨_, _, e, h2, h3, h4⟩ := hr.fCo.2.2.2.eCo
    simp only [Value.slice.injEq, true_and] at e
    obtain ⟨rfl, rfl⟩ := e
    have IH := hid ih
    have H4 := hid h4
    have HK := hid hbk
    have HN := hid hN
    have HM := hid hM
    have X0 := hid x0
    have X3 := hid x3
    have XL := hid (World.block_lt_of_cell? _ _ x3)
    have hcl := Co.bulks_length ks1
    have hlen : ks1.length ≤ 1048576 := by omega
    clear ih hr h4 hbk hN hM x1 x2 h1 hcl HE
    go_enter Try.func79, Try.ntmps79
    go_wp2_with fail
    go_loopw [5, 6] (fun n i wr => ∃ (j : Nat), j ≤ ks1.length ∧ i = .int .i64 j ∧ n = .int .i64 (Co.cous k1 0 (ks1.take j) d) ∧ Below w.heap.size w wr) (fun _ i _ => ks1.length - (intOf i).toNat)
    case atStart => exact ⟨0, by omega, rfl, by simp [Co.cous], Below.refl _ _⟩
    case round =>
      obtain ⟨j, hj, rfl, rfl, hb⟩ := hrel
      have z3 := (hb.cell (p := ⟨b1, o1 + 3, none⟩) XL.out).trans X3.out
      have z0 := (hb.cell (p := ⟨b1, o1, none⟩) XL.out).trans X0.out
      by_cases hlt : j < ks1.length
      case pos =>
        obtain ⟨b, o, rfl, hbl, hall⟩ := H4.out (by omega)
        obtain ⟨t, ht⟩ : ∃ t, ks1[j]? = some t := ⟨_, List.getElem?_eq_getElem hlt⟩
        obtain ⟨k3, v3, ds3, ks3⟩ := t
        obtain ⟨ads3, cds3, aks3, cks3, q0, q1, q2, q3, hrk⟩ := hall j k3 v3 ds3 ks3 ht
        clear hall H4
        have hbg := Co.bulk_get ks1 j _ ht
        have HT := hid (Co.cous_take k1 0 ks1 d j _ ht)
        have n0 := (Co.cous_bd k1 0 (ks1.take j) d).1
        have n1 := Co.cous_le k1 0 ks1 d j
        have hcb := fun d' os => Calls.regrown_of ((spec_binds k1 b1 o1 j (grow (redrawn wr d') os) (cell_regrown z0 d' os)).mono fun _ _ ⟨h, e⟩ => ⟨h, e ▸ Below.refl _ _⟩)
        have hc := fun d' os => Calls.regrown_of (IH.out k3 v3 ds3 ks3 ads3 cds3 aks3 cks3 b (o + j * 4) (wrap64 (d + bindsOf k1 j)) (grow (redrawn wr d') os) (by have := HK.out; have := HN.out; omega) (by have := HK.out; have := HM.out; omega)
          (cell_regrown ((hb.cell (p := ⟨b, o + j * 4, none⟩) hbl).trans q0) d' os) (cell_regrown ((hb.cell (p := ⟨b, o + j * 4 + 1, none⟩) hbl).trans q1) d' os) (cell_regrown ((hb.cell (p := ⟨b, o + j * 4 + 2, none⟩) hbl).trans q2) d' os) (cell_regrown ((hb.cell (p := ⟨b, o + j * 4 + 3, none⟩) hbl).trans q3) d' os) ((hrk.below hb).below (below_regrown wr d' os)))
        have c0 := Co.cou_bd (.mk k3 v3 ds3 ks3) (wrap64 (d + bindsOf k1 j))
        have hsum : Co.cous k1 0 (ks1.take j) d + Co.cou (.mk k3 v3 ds3 ks3) (wrap64 (d + bindsOf k1 j)) ≤ 4194304 := by have := HK.out; have := HM.out; omega
        have z3' := cell_regrown z3
        clear ht hrk q0 q1 q2 q3 z0
        rw [Nat.zero_add] at HT
        generalize hbq : bindsOf k1 j = bb at hc hcb hsum c0 HT
        generalize hcq : Co.cou (.mk k3 v3 ds3 ks3) (wrap64 (d + bb)) = cc at hc hsum c0 HT
        generalize hnq : Co.cous k1 0 (ks1.take j) d = nn at hsum n0 n1 HT ⊢
        obtain ⟨c1, c2⟩ := c0
        have hcc : cc ≤ 4194304 := by omega
        have hnn : nn ≤ 4194304 := by omega
        have HS := hid (IntWalk.wrap64_in (nn + cc) (by omega))
        clear c2 n1
        have HC := hid hc
        have HCB := hid hcb
        clear hbq hc hcb hcq hnq
        go_wp2_with fail
        refine wp_region_quiet_below (by kernel_rfl) (by kernel_rfl) ?_
        repeat (go_big_quiet_step (first | exact HCB.out _ _ | exact HC.out _ _))
        refine wpQuiet_nil ?_
        intro _ hw'
        obtain ⟨⟨dq, osq⟩, hw''⟩ := hw'
        subst hw''
        have hbw := hb.trans ((below_regrown wr dq osq).mono hb.size)
        clear HC HCB z3 z3'
        go_wp2_with fail
        go_roundw
        case rel => exact ⟨j + 1, by omega, by go_num, by rw [HT.out], hbw⟩
        case measure => simp [intOf]; omega
      case neg =>
        go_wp2_with fail
        go_ret
        exact ⟨ret_int (by rw [HF.out, List.take_of_length_le (by omega)]), hb⟩
theorem cou_all : ∀ N, CouW N
  | 0 => fun _ _ _ _ _ _ _ _ _ _ _ _  h => absurd h (by omega)
  | N + 1 => cou_step N (cou_all N)
end Go.Proofs.Ytejdbmeoaekhcaa
/- was: Ins -/
namespace Go.Proofs.Ytejdbmeoaekhcaa
open Go.ChangeShapes Go.WideShapes Go.ChangeAt Go.RowKit Go.BigFrame
open Go.Sort (grow)
set_option linter.unusedVariables false

theorem at_count {w : World} {b o : Nat} {t : Co} (h : AtC w b o t) (d : Int) (hM : Co.bulk t ≤ 1048576) : Calls Try.prog 79 #[.pointer (some ⟨b, o, none⟩), .int .i64 d] w (GivesInt w) := by
  obtain ⟨k, v, ds, ks⟩ := t
  obtain ⟨ad, cd, ak, ck, x0, x1, x2, x3, hr⟩ := h
  exact (cou_all (Co.bulk (.mk k v ds ks) + 1) k v ds ks ad cd ak ck b o d w (by omega) hM x0 x1 x2 x3 hr).mono fun _ _ ⟨h1, h2⟩ => ⟨_, h1, h2⟩
theorem at_nodes {w : World} {b o : Nat} {t : Co} (h : AtC w b o t) (hM : Co.bulk t ≤ 1048576) : Calls Try.prog 78 #[.pointer (some ⟨b, o, none⟩), .int .i64 80, .int .i64 400] w (GivesInt w) := by
  obtain ⟨k, v, ds, ks⟩ := t
  obtain ⟨ad, cd, ak, ck, x0, x1, x2, x3, hr⟩ := h
  exact (spec_l06Nodes k v ds ks ad cd ak ck b o 80 400 w hM (by omega) (by omega) (by omega) (by omega) x0 x1 x2 x3 hr).mono fun _ _ ⟨h1, h2⟩ => ⟨_, h1, h2⟩
set_option maxRecDepth 100000 in
set_option maxHeartbeats 2000000 in
theorem spec_instance (t1 t2 : Co) (b1 o1 b2 o2 : Nat) (w : World) (hM1 : Co.bulk t1 ≤ 1048576) (hM2 : Co.bulk t2 ≤ 1048576) (h1 : AtC w b1 o1 t1) (h2 : AtC w b2 o2 t2) :
    Calls Try.prog 64 #[.pointer (some ⟨b1, o1, none⟩), .pointer (some ⟨b2, o2, none⟩)] w (GivesW2 w) := by
  have hB1 : Below w.heap.size w (w.alloc (.cells #[.int .i64 0, .int .i64 0, .slice none 0 0, .slice none 0 0] 36)) := (Below.refl _ _).alloc (Nat.le_refl _) _
  have HB0 := hid hB1
  have A1 := hid (h1.below hB1)
  have A2 := hid (h2.below hB1)
  have HN0 := hid (show (w.alloc (.cells #[.int .i64 0, .int .i64 0, .slice none 0 0, .slice none 0 0] 36)).heap[w.heap.size]? = some (.cells #[.int .i64 0, .int .i64 0, .slice none 0 0, .slice none 0 0] 36) from heap_alloc_new w _)
  have HM1 := hid hM1
  have HM2 := hid hM2
  have hc := at_count A1.out 0 hM1
  have HC := hid hc
  clear h1 h2 hM1 hM2 hB1 hc
  go_enter Try.func64, Try.ntmps64
  go_wp2_with fail
  refine HC.out.mono ?_
  rintro e w1 ⟨c, rfl, hb⟩
  have HB1 := hid (HB0.out.trans (hb.mono HB0.out.size))
  have HN1 := hid ((hb.block w.heap.size (by simp)).trans HN0.out)
  have A1 := hid (A1.out.below hb)
  have A2 := hid (A2.out.below hb)
  have HC := hid (at_nodes A1.out HM1.out)
  clear hb
  go_wp2_with fail
  refine HC.out.mono ?_
  rintro e w2 ⟨n1, rfl, hb⟩
  have HB2 := hid (HB1.out.trans (hb.mono HB1.out.size))
  have HN2 := hid ((hb.block w.heap.size (Array.getElem?_eq_some_iff.1 HN1.out).1).trans HN1.out)
  have A1 := hid (A1.out.below hb)
  have A2 := hid (A2.out.below hb)
  have HC := hid (at_nodes A2.out HM2.out)
  clear hb
  go_wp2_with fail
  refine HC.out.mono ?_
  rintro e w3 ⟨n2, rfl, hb⟩
  have HB3 := hid (HB2.out.trans (hb.mono HB2.out.size))
  have HN3 := hid ((hb.block w.heap.size (Array.getElem?_eq_some_iff.1 HN2.out).1).trans HN2.out)
  have A1 := hid (A1.out.below hb)
  have A2 := hid (A2.out.below hb)
  clear hb HC HN0 HN1 HN2
  obtain ⟨n3, h3⟩ : ∃ n3, IntKind.i64.wrap (n2 - 1) = n3 := ⟨_, rfl⟩
  obtain ⟨n4, h4⟩ : ∃ n4, IntKind.i64.wrap (c * n3) = n4 := ⟨_, rfl⟩
  obtain ⟨n5, h5⟩ : ∃ n5, IntKind.i64.wrap (n1 + n4) = n5 := ⟨_, rfl⟩
  by_cases hq : 400 < n5
  case pos =>
    clear A1 A2
    have z0 := heap_free HN3.out 0
    have r0 := heap_cell HN3.out (j := 0) rfl
    have z1 := heap_free HN3.out 1
    have r1 := heap_cell HN3.out (j := 1) rfl
    have z2 := heap_free HN3.out 2
    have r2 := heap_cell HN3.out (j := 2) rfl
    have z3 := heap_free HN3.out 3
    have r3 := heap_cell HN3.out (j := 3) rfl
    go_wp2_with fail
    have hS := set4 HN3.out (.int .i64 0) (.int .i64 0) (.slice none 0 0) (.slice none 0 0)
    have hc0 := heap_cell hS (j := 0) rfl
    have hc1 := heap_cell hS (j := 1) rfl
    have hc2 := heap_cell hS (j := 2) rfl
    have hc3 := heap_cell hS (j := 3) rfl
    refine bodyPost_ret (v := .tuple #[.agg #[.int .i64 0, .int .i64 0, .slice none 0 0, .slice none 0 0], .int .i64 4]) (by simp [results, Try.results64, go_sem, hc0, hc1, hc2, hc3]) rfl ?_
    exact ⟨_, _, _, _, _, _, _, _, _, rfl, set4_below HB3.out (Nat.le_refl _) _ _ _ _⟩
  case neg =>
  have hc := pu_all (Co.bulk t1 + 1) t1 t2 b1 o1 b2 o2 0 w3 (by omega) HM1.out HM2.out (by omega) A1.out A2.out
  have HC := hid hc
  clear hc
  go_wp2_with fail
  refine HC.out.mono ?_
  rintro e w4 ⟨⟨k5, v5, ds5, ks5⟩, ad5, cd5, a5, c5, rfl, ho, hb⟩
  have hal : Below w4.heap.size w4 (w4.alloc (.cells #[.int .i64 k5, .int .i64 v5, .slice ad5 ds5.length cd5, .slice a5 ks5.length c5] 36)) := (Below.refl _ _).alloc (Nat.le_refl _) _
  have HB4 := hid ((HB3.out.trans (hb.mono HB3.out.size)).trans (hal.mono (Nat.le_trans HB3.out.size hb.size)))
  have HN4 := hid ((hal.block w.heap.size (Nat.lt_of_lt_of_le (Array.getElem?_eq_some_iff.1 HN3.out).1 hb.size)).trans ((hb.block w.heap.size (Array.getElem?_eq_some_iff.1 HN3.out).1).trans HN3.out))
  have HX4 := hid (heap_alloc_new w4 (.cells #[.int .i64 k5, .int .i64 v5, .slice ad5 ds5.length cd5, .slice a5 ks5.length c5] 36))
  have A5 := hid (AtC.box (k := k5) (v := v5) (ds := ds5) (ks := ks5) HX4.out (ho.rd.below hal))
  have HC := hid (dep_all (Co.bulk (.mk k5 v5 ds5 ks5) + 1) (.mk k5 v5 ds5 ks5) w4.heap.size 0 _ (by omega) A5.out)
  clear ho hb hal A1 A2 HN3
  go_wp2_with fail
  refine HC.out.mono ?_
  rintro e w5 ⟨m1, rfl, hb⟩
  have HB5 := hid (HB4.out.trans (hb.mono HB4.out.size))
  have HN5 := hid ((hb.block w.heap.size (Array.getElem?_eq_some_iff.1 HN4.out).1).trans HN4.out)
  have HX5 := hid ((hb.block w4.heap.size (Array.getElem?_eq_some_iff.1 HX4.out).1).trans HX4.out)
  have A5 := hid (A5.out.below hb)
  clear hb HC HN4 HX4
  by_cases hq1 : 80 < m1
  case pos =>
    clear A5
    have z0 := heap_free HN5.out 0
    have r0 := heap_cell HN5.out (j := 0) rfl
    have z1 := heap_free HN5.out 1
    have r1 := heap_cell HN5.out (j := 1) rfl
    have z2 := heap_free HN5.out 2
    have r2 := heap_cell HN5.out (j := 2) rfl
    have z3 := heap_free HN5.out 3
    have r3 := heap_cell HN5.out (j := 3) rfl
    go_wp2_with fail
    have hS := set4 HN5.out (.int .i64 0) (.int .i64 0) (.slice none 0 0) (.slice none 0 0)
    have hc0 := heap_cell hS (j := 0) rfl
    have hc1 := heap_cell hS (j := 1) rfl
    have hc2 := heap_cell hS (j := 2) rfl
    have hc3 := heap_cell hS (j := 3) rfl
    refine bodyPost_ret (v := .tuple #[.agg #[.int .i64 0, .int .i64 0, .slice none 0 0, .slice none 0 0], .int .i64 4]) (by simp [results, Try.results64, go_sem, hc0, hc1, hc2, hc3]) rfl ?_
    exact ⟨_, _, _, _, _, _, _, _, _, rfl, set4_below HB5.out (Nat.le_refl _) _ _ _ _⟩
  case neg =>
  have HC := hid (hig_all (Co.bulk (.mk k5 v5 ds5 ks5) + 1) (.mk k5 v5 ds5 ks5) w4.heap.size 0 _ (by omega) A5.out)
  go_wp2_with fail
  refine HC.out.mono ?_
  rintro e w6 ⟨m2, rfl, hb⟩
  have HB6 := hid (HB5.out.trans (hb.mono HB5.out.size))
  have HN6 := hid ((hb.block w.heap.size (Array.getElem?_eq_some_iff.1 HN5.out).1).trans HN5.out)
  have HX6 := hid ((hb.block w4.heap.size (Array.getElem?_eq_some_iff.1 HX5.out).1).trans HX5.out)
  clear hb HC HN5 HX5 A5
  by_cases hq2 : 255 < m2
  case pos =>
    have z0 := heap_free HN6.out 0
    have r0 := heap_cell HN6.out (j := 0) rfl
    have z1 := heap_free HN6.out 1
    have r1 := heap_cell HN6.out (j := 1) rfl
    have z2 := heap_free HN6.out 2
    have r2 := heap_cell HN6.out (j := 2) rfl
    have z3 := heap_free HN6.out 3
    have r3 := heap_cell HN6.out (j := 3) rfl
    go_wp2_with fail
    have hS := set4 HN6.out (.int .i64 0) (.int .i64 0) (.slice none 0 0) (.slice none 0 0)
    have hc0 := heap_cell hS (j := 0) rfl
    have hc1 := heap_cell hS (j := 1) rfl
    have hc2 := heap_cell hS (j := 2) rfl
    have hc3 := heap_cell hS (j := 3) rfl
    refine bodyPost_ret (v := .tuple #[.agg #[.int .i64 0, .int .i64 0, .slice none 0 0, .slice none 0 0], .int .i64 2]) (by simp [results, Try.results64, go_sem, hc0, hc1, hc2, hc3]) rfl ?_
    exact ⟨_, _, _, _, _, _, _, _, _, rfl, set4_below HB6.out (Nat.le_refl _) _ _ _ _⟩
  case neg =>
    have z0 := heap_free HN6.out 0
    have r0 := heap_cell HN6.out (j := 0) rfl
    have z1 := heap_free HN6.out 1
    have r1 := heap_cell HN6.out (j := 1) rfl
    have z2 := heap_free HN6.out 2
    have r2 := heap_cell HN6.out (j := 2) rfl
    have z3 := heap_free HN6.out 3
    have r3 := heap_cell HN6.out (j := 3) rfl
    have y0 := heap_cell HX6.out (j := 0) rfl
    have y1 := heap_cell HX6.out (j := 1) rfl
    have y2 := heap_cell HX6.out (j := 2) rfl
    have y3 := heap_cell HX6.out (j := 3) rfl
    go_wp2_with fail
    have hS := set4 HN6.out (.int .i64 k5) (.int .i64 v5) (.slice ad5 ds5.length cd5) (.slice a5 ks5.length c5)
    have hc0 := heap_cell hS (j := 0) rfl
    have hc1 := heap_cell hS (j := 1) rfl
    have hc2 := heap_cell hS (j := 2) rfl
    have hc3 := heap_cell hS (j := 3) rfl
    refine bodyPost_ret (v := .tuple #[.agg #[.int .i64 k5, .int .i64 v5, .slice ad5 ds5.length cd5, .slice a5 ks5.length c5], .int .i64 0]) (by simp [results, Try.results64, go_sem, hc0, hc1, hc2, hc3]) rfl ?_
    exact ⟨_, _, _, _, _, _, _, _, _, rfl, set4_below HB6.out (Nat.le_refl _) _ _ _ _⟩
end Go.Proofs.Ytejdbmeoaekhcaa
/- was: Three -/
namespace Go.Proofs.Ytejdbmeoaekhcaa
open Go.ChangeShapes Go.WideShapes Go.ChangeAt Go.RowKit

/-- A row of strings lies at a place. -/
def StrsAt (w : World) (b o : Nat) (ss : List ByteArray) : Prop := ∀ i t, ss[i]? = some t → w.cell? ⟨b, o + i, none⟩ = some (.string t)

theorem StrsAt.below {B : Nat} {w w' : World} {b o : Nat} {ss : List ByteArray} (h : StrsAt w b o ss) (hb : Below B w w') (hB : b < B) : StrsAt w' b o ss :=
  fun i t hi => (hb.cell (p := ⟨b, o + i, none⟩) hB).trans (h i t hi)

/-- The place of a string in a list, from a place on. -/
def idxFrom (s : ByteArray) : Nat → List ByteArray → Int
  | _, [] => -1
  | k, t :: ts => if t = s then k else idxFrom s (k + 1) ts
theorem idxFrom_none (s : ByteArray) : ∀ (k : Nat) (l : List ByteArray), (∀ (j : Nat) t, l[j]? = some t → t ≠ s) → idxFrom s k l = -1
  | _, [], _ => rfl
  | k, t :: ts, h => by rw [idxFrom, if_neg (h 0 t rfl), idxFrom_none s (k + 1) ts (fun j u hu => h (j + 1) u (by simpa using hu))]
theorem idxFrom_at (s : ByteArray) : ∀ (k i : Nat) (l : List ByteArray), (∀ j t, j < i → l[j]? = some t → t ≠ s) → l[i]? = some s → idxFrom s k l = (k + i : Nat)
  | _, _, [], _, h => by simp at h
  | k, 0, t :: ts, _, h => by simp at h; simp [idxFrom, h]
  | k, i + 1, t :: ts, hj, h => by
    rw [idxFrom, if_neg (hj 0 t (by omega) rfl), idxFrom_at s (k + 1) i ts (fun j u hj' hu => hj (j + 1) u (by omega) (by simpa using hu)) (by simpa using h)]
    congr 1; omega
theorem idxFrom_ge (s : ByteArray) : ∀ (k : Nat) (l : List ByteArray), (0 ≤ idxFrom s k l) ↔ s ∈ l
  | _, [] => by simp [idxFrom]
  | k, t :: ts => by
    rw [idxFrom]
    by_cases h : t = s
    · rw [if_pos h]; simp [h]
    · rw [if_neg h, idxFrom_ge s (k + 1) ts]
      constructor
      · intro m; exact List.mem_cons_of_mem _ m
      · intro m; rcases List.mem_cons.1 m with e | m
        · exact absurd e.symm h
        · exact m

/-- Is a string among these? -/
def hasStr (ss : List ByteArray) (s : ByteArray) : Bool := decide (0 ≤ idxFrom s 0 ss)
theorem hasStr_yes {ss : List ByteArray} {s : ByteArray} {k : Nat} (h : ss[k]? = some s) : hasStr ss s = true := by
  simp only [hasStr, decide_eq_true_eq]
  exact (idxFrom_ge s 0 ss).2 (List.mem_of_getElem? h)
theorem hasStr_no {ss : List ByteArray} {s : ByteArray} (h : ∀ (j : Nat) t, ss[j]? = some t → t ≠ s) : hasStr ss s = false := by
  simp [hasStr, idxFrom_none s 0 ss h]

theorem bytes_yes {s t : ByteArray} (h : (s.toList == t.toList) = true) : s = t := by
  rw [ByteArray.toList_eq, ByteArray.toList_eq] at h
  have := eq_of_beq h
  cases s; cases t
  simp_all
theorem bytes_no {s t : ByteArray} (h : (s.toList == t.toList) = false) : s ≠ t := by
  intro e
  subst e
  simp at h
theorem bytes_eq {s t : ByteArray} (h : s = t) : (s.toList == t.toList) = true := by subst h; simp
theorem bytes_ne {s t : ByteArray} (h : s ≠ t) : (s.toList == t.toList) = false := by
  cases hx : (s.toList == t.toList) with
  | false => rfl
  | true => exact absurd (bytes_yes hx) h

def kws : List ByteArray := [⟨#[100, 97, 116, 97]⟩, ⟨#[100, 101, 102]⟩, ⟨#[108, 101, 116]⟩, ⟨#[105, 110]⟩, ⟨#[109, 97, 116, 99, 104]⟩, ⟨#[105, 102]⟩, ⟨#[116, 104, 101, 110]⟩, ⟨#[101, 108, 115, 101]⟩]
def isKw (s : ByteArray) : Bool := hasStr kws s

end Go.Proofs.Ytejdbmeoaekhcaa
/- was: One -/
namespace Go.Proofs.Ytejdbmeoaekhcaa
open Go.ChangeShapes Go.WideShapes Go.ChangeAt Go.RowKit

theorem wrap64_wrap32 (n : Int) : wrap64 (wrap32 n) = wrap32 n := by unfold wrap64 wrap32; omega
theorem wrap32_mod (n : Int) : wrap32 (IntKind.u64.wrap n % 4294967296) = wrap32 n := by rw [IntKind.wrap_u64]; unfold wrap32; omega

theorem spec_Wrap32 (n : Int) (w : World) : Calls Try.prog 83 #[.int .i64 n] w fun e w' => e = .returned (.int .i64 (wrap32 n)) ∧ w = w' := by
  go_enter Try.func83, Try.ntmps83
  go_wp2
  go_ret
  exact ⟨ret_int (by rw [wrap64_wrap32, wrap32_mod]), rfl⟩

end Go.Proofs.Ytejdbmeoaekhcaa
/- was: Five -/
namespace Go.Proofs.Ytejdbmeoaekhcaa
open Go.ChangeShapes Go.WideShapes Go.ChangeAt Go.RowKit

/-! ### OperatorOf -/
def opL : List ByteArray := [⟨#[43]⟩, ⟨#[45]⟩, ⟨#[42]⟩, ⟨#[47]⟩, ⟨#[60]⟩, ⟨#[61]⟩]
def opOf (s : ByteArray) : Int := idxFrom s 0 opL + 1
theorem opText_at {k : Nat} {t : ByteArray} (h : opL[k]? = some t) : opText ((k : Int) + 1) = t := by
  match k, h with
  | 0, h | 1, h | 2, h | 3, h | 4, h | 5, h => simp [opL] at h; subst h; rfl
  | k + 6, h => simp [opL] at h

/-! ### CodeName -/
def codes : List ByteArray := [⟨#[111, 107]⟩, ⟨#[105, 110, 118, 97, 108, 105, 100]⟩, ⟨#[114, 97, 110, 103, 101]⟩, ⟨#[110, 111, 116, 102, 111, 117, 110, 100]⟩, ⟨#[102, 117, 108, 108]⟩, ⟨#[115, 116, 97, 116, 101]⟩, ⟨#[115, 121, 110, 116, 97, 120]⟩, ⟨#[110, 97, 109, 101]⟩, ⟨#[116, 121, 112, 101]⟩, ⟨#[108, 101, 118, 101, 108]⟩, ⟨#[108, 105, 110, 101, 97, 114]⟩, ⟨#[99, 108, 97, 115, 104]⟩, ⟨#[98, 117, 100, 103, 101, 116]⟩, ⟨#[114, 101, 97, 100]⟩, ⟨#[102, 111, 114, 109, 97, 116]⟩]
def codeName (n : Int) : ByteArray := if 0 ≤ n ∧ n ≤ 14 then codes[n.toNat]?.getD default else ⟨#[]⟩
theorem fifteen {n : Int} (h : 0 ≤ n ∧ n ≤ 14) : n = 0 ∨ n = 1 ∨ n = 2 ∨ n = 3 ∨ n = 4 ∨ n = 5 ∨ n = 6 ∨ n = 7 ∨ n = 8 ∨ n = 9 ∨ n = 10 ∨ n = 11 ∨ n = 12 ∨ n = 13 ∨ n = 14 := by omega

/-! ### Operate -/
theorem wrap32_bd (n : Int) : -2147483648 ≤ wrap32 n ∧ wrap32 n ≤ 2147483647 := by unfold wrap32; omega
theorem spec_Bool (b : Bool) (w : World) : Calls Try.prog 84 #[.bool b] w fun e w' => e = .returned (.int .i64 (if b then 1 else 0)) ∧ w = w' := by
  cases b
  all_goals
    go_enter Try.func84, Try.ntmps84
    go_wp2
    go_ret
    exact ⟨rfl, rfl⟩
def operate (op a b : Int) : Int :=
  if op = 1 then wrap32 (wrap32 a + wrap32 b)
  else if op = 2 then wrap32 (wrap32 a - wrap32 b)
  else if op = 3 then wrap32 (wrap64 (wrap32 a * wrap32 b))
  else if op = 4 then (if wrap32 b = 0 then 0 else wrap32 (wrap64 ((wrap32 a).tdiv (wrap32 b))))
  else if op = 5 then (if decide (wrap32 a < wrap32 b) then 1 else 0)
  else if op = 6 then (if (wrap32 a == wrap32 b) then 1 else 0)
  else 0
set_option maxHeartbeats 4000000 in
theorem spec_Operate (op a b : Int) (w : World) : Calls Try.prog 66 #[.int .i64 op, .int .i64 a, .int .i64 b] w fun e w' => e = .returned (.int .i64 (operate op a b)) ∧ w = w' := by
  obtain ⟨ha1, ha2⟩ := wrap32_bd a
  obtain ⟨hb1, hb2⟩ := wrap32_bd b
  by_cases h4 : op = 4
  · subst h4
    by_cases h0 : wrap32 b = 0
    · have hz : (wrap32 b == 0) = true := by simp [h0]
      rw [show operate 4 a b = 0 by simp [operate, h0]]
      clear h0
      go_enter Try.func66, Try.ntmps66
      go_wp2_with (first
        | (go_at_call 83; refine (spec_Wrap32 _ _).mono ?_; rintro e w' ⟨rfl, rfl⟩)
        | (go_at_call 84; refine (spec_Bool _ _).mono ?_; rintro e w' ⟨rfl, rfl⟩))
      go_ret
      exact ⟨rfl, rfl⟩
    · have hz : (wrap32 b == 0) = false := by simp [h0]
      rw [show operate 4 a b = wrap32 (wrap64 ((wrap32 a).tdiv (wrap32 b))) by simp [operate, h0]]
      go_enter Try.func66, Try.ntmps66
      go_wp2_with (first
        | (go_at_call 83; refine (spec_Wrap32 _ _).mono ?_; rintro e w' ⟨rfl, rfl⟩)
        | (go_at_call 84; refine (spec_Bool _ _).mono ?_; rintro e w' ⟨rfl, rfl⟩))
      go_ret
      exact ⟨rfl, rfl⟩
  by_cases h1 : op = 1
  · subst h1
    go_enter Try.func66, Try.ntmps66
    go_wp2_with (first
      | (go_at_call 83; refine (spec_Wrap32 _ _).mono ?_; rintro e w' ⟨rfl, rfl⟩)
      | (go_at_call 84; refine (spec_Bool _ _).mono ?_; rintro e w' ⟨rfl, rfl⟩))
    go_ret
    exact ⟨rfl, rfl⟩
  by_cases h2 : op = 2
  · subst h2
    go_enter Try.func66, Try.ntmps66
    go_wp2_with (first
      | (go_at_call 83; refine (spec_Wrap32 _ _).mono ?_; rintro e w' ⟨rfl, rfl⟩)
      | (go_at_call 84; refine (spec_Bool _ _).mono ?_; rintro e w' ⟨rfl, rfl⟩))
    go_ret
    exact ⟨rfl, rfl⟩
  by_cases h3 : op = 3
  · subst h3
    go_enter Try.func66, Try.ntmps66
    go_wp2_with (first
      | (go_at_call 83; refine (spec_Wrap32 _ _).mono ?_; rintro e w' ⟨rfl, rfl⟩)
      | (go_at_call 84; refine (spec_Bool _ _).mono ?_; rintro e w' ⟨rfl, rfl⟩))
    go_ret
    exact ⟨rfl, rfl⟩
  by_cases h5 : op = 5
  · subst h5
    by_cases hc : wrap32 a < wrap32 b
    all_goals
      go_enter Try.func66, Try.ntmps66
      go_wp2_with (first
        | (go_at_call 83; refine (spec_Wrap32 _ _).mono ?_; rintro e w' ⟨rfl, rfl⟩)
        | (go_at_call 84; refine (spec_Bool _ _).mono ?_; rintro e w' ⟨rfl, rfl⟩))
      go_ret
      exact ⟨ret_int (by simp [operate]; try omega), rfl⟩
  by_cases h6 : op = 6
  · subst h6
    cases hc : (wrap32 a == wrap32 b)
    all_goals
      go_enter Try.func66, Try.ntmps66
      go_wp2_with (first
        | (go_at_call 83; refine (spec_Wrap32 _ _).mono ?_; rintro e w' ⟨rfl, rfl⟩)
        | (go_at_call 84; refine (spec_Bool _ _).mono ?_; rintro e w' ⟨rfl, rfl⟩))
      go_ret
      exact ⟨ret_int (by simp only [operate, hc]; rfl), rfl⟩
  rw [show operate op a b = 0 by unfold operate; repeat (rw [if_neg (by assumption)])]
  have g1 : (op == 1) = false := by simp [h1]
  have g2 : (op == 2) = false := by simp [h2]
  have g3 : (op == 3) = false := by simp [h3]
  have g4 : (op == 4) = false := by simp [h4]
  have g5 : (op == 5) = false := by simp [h5]
  have g6 : (op == 6) = false := by simp [h6]
  clear h1 h2 h3 h4 h5 h6
  go_enter Try.func66, Try.ntmps66
  go_wp2_with (first
    | (go_at_call 83; refine (spec_Wrap32 _ _).mono ?_; rintro e w' ⟨rfl, rfl⟩)
    | (go_at_call 84; refine (spec_Bool _ _).mono ?_; rintro e w' ⟨rfl, rfl⟩))
  go_ret
  exact ⟨rfl, rfl⟩
end Go.Proofs.Ytejdbmeoaekhcaa
/- was: Con2 -/
namespace Go.Proofs.Ytejdbmeoaekhcaa
open Go.ChangeShapes Go.WideShapes Go.ChangeAt Go.RowKit
open Go.Sort (grow)
set_option linter.unusedVariables false

set_option maxRecDepth 100000 in
set_option maxHeartbeats 2000000 in
theorem contract_one (v1 : Int) (ds1 : List Int) (v0 : Int) (d0 : List Int) (tb ta : Co) (b0 o0 b1 o1 : Nat) (w : World) (hM1 : Co.bulk tb ≤ 1048576) (hM2 : Co.bulk ta ≤ 1048576) (hat : AtC w b1 o1 (.mk 5 v1 ds1 [.mk 4 v0 d0 [tb], ta])) :
    Calls Try.prog 48 #[.pointer (some ⟨b0, o0, none⟩), .pointer (some ⟨b1, o1, none⟩), .int .i64 1] w (GivesW2 w) := by
  have hB1 : Below w.heap.size w (w.alloc (.cells #[.int .i64 0, .int .i64 0, .slice none 0 0, .slice none 0 0] 36)) := (Below.refl _ _).alloc (Nat.le_refl _) _
  have HB1 := hid hB1
  have HN1 := hid (show (w.alloc (.cells #[.int .i64 0, .int .i64 0, .slice none 0 0, .slice none 0 0] 36)).heap[w.heap.size]? = some (.cells #[.int .i64 0, .int .i64 0, .slice none 0 0, .slice none 0 0] 36) from heap_alloc_new w _)
  obtain ⟨ads1, cds1, aks1, cks1, x0, x1, x2, x3, hr⟩ := hat
  obtain ⟨_, _, e, _, _, hall⟩ := kids_at hr.fCo.2.2.2
  simp only [Value.slice.injEq, true_and] at e
  obtain ⟨rfl, rfl⟩ := e
  obtain ⟨bc, oc, rfl, hlc, hall⟩ := hall (by simp)
  have a0 := hall 0 _ rfl
  have a1 := hall 1 _ rfl
  simp only [Nat.zero_mul, Nat.add_zero, Nat.one_mul] at a0 a1
  obtain ⟨ad0, cd0, ak0, ce, p0, p1, p2, p3, hr0⟩ := a0
  obtain ⟨_, _, e, _, _, hall0⟩ := kids_at hr0.fCo.2.2.2
  simp only [Value.slice.injEq, true_and] at e
  obtain ⟨rfl, rfl⟩ := e
  obtain ⟨be, oe, rfl, hle, hall0⟩ := hall0 (by simp)
  have ae := hall0 0 _ rfl
  simp only [Nat.zero_mul, Nat.add_zero] at ae
  have l1 := World.block_lt_of_cell? _ _ x0
  have y3 : (w.alloc (.cells #[.int .i64 0, .int .i64 0, .slice none 0 0, .slice none 0 0] 36)).drew.cell? ⟨b1, o1 + 3, none⟩ = some (.slice (some ⟨bc, oc, none⟩) 2 cks1) := (hB1.cell (p := ⟨b1, o1 + 3, none⟩) l1).trans x3
  have yc : (w.alloc (.cells #[.int .i64 0, .int .i64 0, .slice none 0 0, .slice none 0 0] 36)).drew.cell? ⟨bc, oc + 3, none⟩ = some (.slice (some ⟨be, oe, none⟩) 1 ce) := (hB1.cell (p := ⟨bc, oc + 3, none⟩) hlc).trans p3
  have HI := hid (spec_instance tb ta be oe bc (oc + 4) (w.alloc (.cells #[.int .i64 0, .int .i64 0, .slice none 0 0, .slice none 0 0] 36)).drew hM1 hM2 (ae.below hB1.drew) (a1.below hB1.drew))
  have hS0 : (Below w.heap.size w (w.alloc (.cells #[.int .i64 0, .int .i64 0, .slice none 0 0, .slice none 0 0] 36)).drew ∧ (w.alloc (.cells #[.int .i64 0, .int .i64 0, .slice none 0 0, .slice none 0 0] 36)).drew.cell? ⟨b1, o1 + 3, none⟩ = some (.slice (some ⟨bc, oc, none⟩) 2 cks1) ∧ (w.alloc (.cells #[.int .i64 0, .int .i64 0, .slice none 0 0, .slice none 0 0] 36)).drew.cell? ⟨bc, oc + 3, none⟩ = some (.slice (some ⟨be, oe, none⟩) 1 ce)) := ⟨hB1.drew, y3, yc⟩
  have hkeep : ∀ V V' : World, Below w.heap.size V V' → ((Below w.heap.size w V ∧ V.cell? ⟨b1, o1 + 3, none⟩ = some (.slice (some ⟨bc, oc, none⟩) 2 cks1) ∧ V.cell? ⟨bc, oc + 3, none⟩ = some (.slice (some ⟨be, oe, none⟩) 1 ce))) → ((Below w.heap.size w V' ∧ V'.cell? ⟨b1, o1 + 3, none⟩ = some (.slice (some ⟨bc, oc, none⟩) 2 cks1) ∧ V'.cell? ⟨bc, oc + 3, none⟩ = some (.slice (some ⟨be, oe, none⟩) 1 ce))) := fun V V' hb ⟨h, c0, c1⟩ => ⟨h.trans hb, (hb.cell (p := ⟨b1, o1 + 3, none⟩) l1).trans c0, (hb.cell (p := ⟨bc, oc + 3, none⟩) hlc).trans c1⟩
  have KEEP := hid hkeep
  have KST := hid (fun (V : World) (p q r u : Value) (h : (Below w.heap.size w V ∧ V.cell? ⟨b1, o1 + 3, none⟩ = some (.slice (some ⟨bc, oc, none⟩) 2 cks1) ∧ V.cell? ⟨bc, oc + 3, none⟩ = some (.slice (some ⟨be, oe, none⟩) 1 ce))) => hkeep V (set4W V w.heap.size p q r u) (set4_below (Below.refl _ _) (Nat.le_refl _) p q r u) h)
  clear hkeep
  clear hall hall0 a1 ae hr hr0 x0 x1 x2 x3 p0 p1 p2 p3 hB1 hM1 hM2
  go_enter Try.func48, Try.ntmps48
  go_wp2_with fail
  go_region_held3 (fun V => (Below w.heap.size w V ∧ V.cell? ⟨b1, o1 + 3, none⟩ = some (.slice (some ⟨bc, oc, none⟩) 2 cks1) ∧ V.cell? ⟨bc, oc + 3, none⟩ = some (.slice (some ⟨be, oe, none⟩) 1 ce)))
    (with_reducible first | exact hS0 | exact hS1 | exact KST.out _ _ _ _ _ hS1)
    (first
      | (go_at_call 64; (with_reducible refine HI.out.mono ?_); rintro e V1 ⟨k5, v5, a5, n5, c5, p5, m5, d5, z5, rfl, hb⟩; have HB2 := hid (HB1.out.drew.trans (hb.mono (by simp))); have HN2 := hid ((hb.block w.heap.size (by simp)).trans HN1.out); have hS1 := KEEP.out _ _ (hb.mono (B' := w.heap.size) (by simp)) hS0; have z0 := heap_free HN2.out 0; have z1 := heap_free HN2.out 1; have z2 := heap_free HN2.out 2; have z3 := heap_free HN2.out 3; have r0 := heap_cell HN2.out (j := 0) rfl; have r1 := heap_cell HN2.out (j := 1) rfl; have r2 := heap_cell HN2.out (j := 2) rfl; have r3 := heap_cell HN2.out (j := 3) rfl))
  clear KEEP KST hS0 y3 yc
  go_wp2_with fail
  have hS := set4 HN2.out (.int .i64 k5) (.int .i64 v5) (.slice a5 n5 c5) (.slice p5 m5 d5)
  have hc0 := heap_cell hS (j := 0) rfl
  have hc1 := heap_cell hS (j := 1) rfl
  have hc2 := heap_cell hS (j := 2) rfl
  have hc3 := heap_cell hS (j := 3) rfl
  refine bodyPost_ret (v := .tuple #[.agg #[.int .i64 k5, .int .i64 v5, .slice a5 n5 c5, .slice p5 m5 d5], .int .i64 z5]) (by simp [results, Try.results48, go_sem, hc0, hc1, hc2, hc3]) rfl ?_
  exact ⟨_, _, _, _, _, _, _, _, _, rfl, set4_below HB2.out (Nat.le_refl _) _ _ _ _⟩
set_option maxRecDepth 100000 in
set_option maxHeartbeats 2000000 in
theorem contract_two (v1 : Int) (ds1 : List Int) (v0 v2 : Int) (d0 d2 : List Int) (q0 q2 : List Co) (b0 o0 b1 o1 : Nat) (w : World) (hat : AtC w b1 o1 (.mk 3 v1 ds1 [.mk 2 v0 d0 q0, .mk 2 v2 d2 q2])) :
    Calls Try.prog 48 #[.pointer (some ⟨b0, o0, none⟩), .pointer (some ⟨b1, o1, none⟩), .int .i64 2] w (GivesW2 w) := by
  have hB1 : Below w.heap.size w (w.alloc (.cells #[.int .i64 0, .int .i64 0, .slice none 0 0, .slice none 0 0] 36)) := (Below.refl _ _).alloc (Nat.le_refl _) _
  have HB1 := hid hB1
  have HN1 := hid (show (w.alloc (.cells #[.int .i64 0, .int .i64 0, .slice none 0 0, .slice none 0 0] 36)).heap[w.heap.size]? = some (.cells #[.int .i64 0, .int .i64 0, .slice none 0 0, .slice none 0 0] 36) from heap_alloc_new w _)
  obtain ⟨ads1, cds1, aks1, cks1, x0, x1, x2, x3, hr⟩ := hat
  obtain ⟨_, _, e, _, _, hall⟩ := kids_at hr.fCo.2.2.2
  simp only [Value.slice.injEq, true_and] at e
  obtain ⟨rfl, rfl⟩ := e
  obtain ⟨bc, oc, rfl, hlc, hall⟩ := hall (by simp)
  have a0 := hall 0 _ rfl
  have a1 := hall 1 _ rfl
  simp only [Nat.zero_mul, Nat.add_zero, Nat.one_mul] at a0 a1
  obtain ⟨ad0, cd0, ak0, ck0, p0, p1, p2, p3, hr0⟩ := a0
  obtain ⟨ad2, cd2, ak2, ck2, q0, q1, q2, q3, hr2⟩ := a1
  have l1 := World.block_lt_of_cell? _ _ x0
  have y1 : (w.alloc (.cells #[.int .i64 0, .int .i64 0, .slice none 0 0, .slice none 0 0] 36)).drew.cell? ⟨b1, o1 + 1, none⟩ = some (.int .i64 v1) := (hB1.cell (p := ⟨b1, o1 + 1, none⟩) l1).trans x1
  have y3 : (w.alloc (.cells #[.int .i64 0, .int .i64 0, .slice none 0 0, .slice none 0 0] 36)).drew.cell? ⟨b1, o1 + 3, none⟩ = some (.slice (some ⟨bc, oc, none⟩) 2 cks1) := (hB1.cell (p := ⟨b1, o1 + 3, none⟩) l1).trans x3
  have yc : (w.alloc (.cells #[.int .i64 0, .int .i64 0, .slice none 0 0, .slice none 0 0] 36)).drew.cell? ⟨bc, oc + 1, none⟩ = some (.int .i64 v0) := (hB1.cell (p := ⟨bc, oc + 1, none⟩) hlc).trans p1
  have yd : (w.alloc (.cells #[.int .i64 0, .int .i64 0, .slice none 0 0, .slice none 0 0] 36)).drew.cell? ⟨bc, oc + 4 + 1, none⟩ = some (.int .i64 v2) := (hB1.cell (p := ⟨bc, oc + 4 + 1, none⟩) hlc).trans q1
  have HOP := hid (spec_Operate v1 v0 v2 (w.alloc (.cells #[.int .i64 0, .int .i64 0, .slice none 0 0, .slice none 0 0] 36)).drew)
  generalize operate v1 v0 v2 = rz at HOP
  have HNN := hid (spec_N rz (w.alloc (.cells #[.int .i64 0, .int .i64 0, .slice none 0 0, .slice none 0 0] 36)).drew)
  have hS0 : (Below w.heap.size w (w.alloc (.cells #[.int .i64 0, .int .i64 0, .slice none 0 0, .slice none 0 0] 36)).drew ∧ (w.alloc (.cells #[.int .i64 0, .int .i64 0, .slice none 0 0, .slice none 0 0] 36)).drew.cell? ⟨b1, o1 + 1, none⟩ = some (.int .i64 v1) ∧ (w.alloc (.cells #[.int .i64 0, .int .i64 0, .slice none 0 0, .slice none 0 0] 36)).drew.cell? ⟨b1, o1 + 3, none⟩ = some (.slice (some ⟨bc, oc, none⟩) 2 cks1) ∧ (w.alloc (.cells #[.int .i64 0, .int .i64 0, .slice none 0 0, .slice none 0 0] 36)).drew.cell? ⟨bc, oc + 1, none⟩ = some (.int .i64 v0) ∧ (w.alloc (.cells #[.int .i64 0, .int .i64 0, .slice none 0 0, .slice none 0 0] 36)).drew.cell? ⟨bc, oc + 4 + 1, none⟩ = some (.int .i64 v2)) := ⟨hB1.drew, y1, y3, yc, yd⟩
  have hkeep : ∀ V V' : World, Below w.heap.size V V' → ((Below w.heap.size w V ∧ V.cell? ⟨b1, o1 + 1, none⟩ = some (.int .i64 v1) ∧ V.cell? ⟨b1, o1 + 3, none⟩ = some (.slice (some ⟨bc, oc, none⟩) 2 cks1) ∧ V.cell? ⟨bc, oc + 1, none⟩ = some (.int .i64 v0) ∧ V.cell? ⟨bc, oc + 4 + 1, none⟩ = some (.int .i64 v2))) → ((Below w.heap.size w V' ∧ V'.cell? ⟨b1, o1 + 1, none⟩ = some (.int .i64 v1) ∧ V'.cell? ⟨b1, o1 + 3, none⟩ = some (.slice (some ⟨bc, oc, none⟩) 2 cks1) ∧ V'.cell? ⟨bc, oc + 1, none⟩ = some (.int .i64 v0) ∧ V'.cell? ⟨bc, oc + 4 + 1, none⟩ = some (.int .i64 v2))) := fun V V' hb ⟨h, c0, c1, c2, c3⟩ => ⟨h.trans hb, (hb.cell (p := ⟨b1, o1 + 1, none⟩) l1).trans c0, (hb.cell (p := ⟨b1, o1 + 3, none⟩) l1).trans c1, (hb.cell (p := ⟨bc, oc + 1, none⟩) hlc).trans c2, (hb.cell (p := ⟨bc, oc + 4 + 1, none⟩) hlc).trans c3⟩
  have KEEP := hid hkeep
  have KST := hid (fun (V : World) (p q r u : Value) (h : (Below w.heap.size w V ∧ V.cell? ⟨b1, o1 + 1, none⟩ = some (.int .i64 v1) ∧ V.cell? ⟨b1, o1 + 3, none⟩ = some (.slice (some ⟨bc, oc, none⟩) 2 cks1) ∧ V.cell? ⟨bc, oc + 1, none⟩ = some (.int .i64 v0) ∧ V.cell? ⟨bc, oc + 4 + 1, none⟩ = some (.int .i64 v2))) => hkeep V (set4W V w.heap.size p q r u) (set4_below (Below.refl _ _) (Nat.le_refl _) p q r u) h)
  clear hkeep
  clear hall hr hr0 hr2 x0 x1 x2 x3 p0 p1 p2 p3 q0 q1 q2 q3 hB1
  go_enter Try.func48, Try.ntmps48
  go_wp2_with fail
  go_region_held3 (fun V => (Below w.heap.size w V ∧ V.cell? ⟨b1, o1 + 1, none⟩ = some (.int .i64 v1) ∧ V.cell? ⟨b1, o1 + 3, none⟩ = some (.slice (some ⟨bc, oc, none⟩) 2 cks1) ∧ V.cell? ⟨bc, oc + 1, none⟩ = some (.int .i64 v0) ∧ V.cell? ⟨bc, oc + 4 + 1, none⟩ = some (.int .i64 v2)))
    (with_reducible first | exact hS0 | exact hS1 | exact KST.out _ _ _ _ _ hS1)
    (first
      | (go_at_call 66; (with_reducible refine HOP.out.mono ?_); rintro e V0 ⟨rfl, rfl⟩)
      | (go_at_call 65; (with_reducible refine HNN.out.mono ?_); rintro e V1 ⟨rfl, hb⟩; have HB2 := hid (HB1.out.drew.trans (hb.mono (by simp))); have HN2 := hid ((hb.block w.heap.size (by simp)).trans HN1.out); have hS1 := KEEP.out _ _ (hb.mono (B' := w.heap.size) (by simp)) hS0; have z0 := heap_free HN2.out 0; have z1 := heap_free HN2.out 1; have z2 := heap_free HN2.out 2; have z3 := heap_free HN2.out 3; have r0 := heap_cell HN2.out (j := 0) rfl; have r1 := heap_cell HN2.out (j := 1) rfl; have r2 := heap_cell HN2.out (j := 2) rfl; have r3 := heap_cell HN2.out (j := 3) rfl))
  clear KEEP KST hS0 y1 y3 yc yd
  go_wp2_with fail
  have hS := set4 HN2.out (.int .i64 2) (.int .i64 rz) (.slice none 0 0) (.slice none 0 0)
  have hc0 := heap_cell hS (j := 0) rfl
  have hc1 := heap_cell hS (j := 1) rfl
  have hc2 := heap_cell hS (j := 2) rfl
  have hc3 := heap_cell hS (j := 3) rfl
  refine bodyPost_ret (v := .tuple #[.agg #[.int .i64 2, .int .i64 rz, .slice none 0 0, .slice none 0 0], .int .i64 0]) (by simp [results, Try.results48, go_sem, hc0, hc1, hc2, hc3]) rfl ?_
  exact ⟨_, _, _, _, _, _, _, _, _, rfl, set4_below HB2.out (Nat.le_refl _) _ _ _ _⟩
set_option maxRecDepth 100000 in
set_option maxHeartbeats 2000000 in
theorem contract_three (k1 v1 : Int) (ds1 : List Int) (k0 v0 : Int) (d0 : List Int) (q0 : List Co) (b0 o0 b1 o1 : Nat) (w : World) (hz : redx k1 ds1.length [.mk k0 v0 d0 q0] = 3) (hg : Co.good (.mk k1 v1 ds1 [.mk k0 v0 d0 q0]) = true) (hat : AtC w b1 o1 (.mk k1 v1 ds1 [.mk k0 v0 d0 q0])) :
    Calls Try.prog 48 #[.pointer (some ⟨b0, o0, none⟩), .pointer (some ⟨b1, o1, none⟩), .int .i64 3] w (GivesW2 w) := by
  have hB1 : Below w.heap.size w (w.alloc (.cells #[.int .i64 0, .int .i64 0, .slice none 0 0, .slice none 0 0] 36)) := (Below.refl _ _).alloc (Nat.le_refl _) _
  have HB1 := hid hB1
  have HN1 := hid (show (w.alloc (.cells #[.int .i64 0, .int .i64 0, .slice none 0 0, .slice none 0 0] 36)).heap[w.heap.size]? = some (.cells #[.int .i64 0, .int .i64 0, .slice none 0 0, .slice none 0 0] 36) from heap_alloc_new w _)
  obtain ⟨ads1, cds1, aks1, cks1, x0, x1, x2, x3, hr⟩ := id hat
  obtain ⟨_, _, e, _, _, hall⟩ := kids_at hr.fCo.2.2.2
  simp only [Value.slice.injEq, true_and] at e
  obtain ⟨rfl, rfl⟩ := e
  obtain ⟨bc, oc, rfl, hlc, hall⟩ := hall (by simp)
  have a0 := hall 0 _ rfl
  simp only [Nat.zero_mul, Nat.add_zero] at a0
  obtain ⟨ad0, cd0, ak0, ck0, p0, p1, p2, p3, hr0⟩ := a0
  have l1 := World.block_lt_of_cell? _ _ x0
  have y3 : (w.alloc (.cells #[.int .i64 0, .int .i64 0, .slice none 0 0, .slice none 0 0] 36)).cell? ⟨b1, o1 + 3, none⟩ = some (.slice (some ⟨bc, oc, none⟩) 1 cks1) := (hB1.cell (p := ⟨b1, o1 + 3, none⟩) l1).trans x3
  have yc := (hB1.cell (p := ⟨bc, oc + 3, none⟩) hlc).trans p3
  have HCH := hid (spec_chosen k1 v1 ds1 [.mk k0 v0 d0 q0] q0 (.slice ak0 q0.length ck0) b1 o1 (w.alloc (.cells #[.int .i64 0, .int .i64 0, .slice none 0 0, .slice none 0 0] 36)) hz hg (hat.below hB1) (hr0.fCo.2.2.2.below hB1))
  clear hall hr hr0 x0 x1 x2 x3 p0 p1 p2 p3 hB1 hat hg hz
  go_enter Try.func48, Try.ntmps48
  go_wp2_with fail
  refine HCH.out.mono ?_
  rintro e V1 ⟨k5, v5, a5, n5, c5, p5, m5, d5, rfl, hb⟩
  have HB2 := hid (HB1.out.trans (hb.mono (by simp)))
  have HN2 := hid ((hb.block w.heap.size (by simp)).trans HN1.out)
  clear hb y3 yc
  have z0 := heap_free HN2.out 0
  have r0 := heap_cell HN2.out (j := 0) rfl
  have z1 := heap_free HN2.out 1
  have r1 := heap_cell HN2.out (j := 1) rfl
  have z2 := heap_free HN2.out 2
  have r2 := heap_cell HN2.out (j := 2) rfl
  have z3 := heap_free HN2.out 3
  have r3 := heap_cell HN2.out (j := 3) rfl
  go_wp2_with fail
  have hS := set4 HN2.out (.int .i64 k5) (.int .i64 v5) (.slice a5 n5 c5) (.slice p5 m5 d5)
  have hc0 := heap_cell hS (j := 0) rfl
  have hc1 := heap_cell hS (j := 1) rfl
  have hc2 := heap_cell hS (j := 2) rfl
  have hc3 := heap_cell hS (j := 3) rfl
  refine bodyPost_ret (v := .tuple #[.agg #[.int .i64 k5, .int .i64 v5, .slice a5 n5 c5, .slice p5 m5 d5], .int .i64 0]) (by simp [results, Try.results48, go_sem, hc0, hc1, hc2, hc3]) rfl ?_
  exact ⟨_, _, _, _, _, _, _, _, _, rfl, set4_below HB2.out (Nat.le_refl _) _ _ _ _⟩
set_option maxRecDepth 100000 in
set_option maxHeartbeats 2000000 in
theorem contract_four (k1 v1 : Int) (ds1 : List Int) (ks1 : List Co) (b0 o0 b1 o1 : Nat) (w : World) (hat : AtC w b1 o1 (Co.mk k1 v1 ds1 ks1)) (hex : ∀ (vk : Value) (W : World), Below w.heap.size w W → RdL W (Co.ds ks1) vk → Calls Try.prog 68 #[.pointer (some ⟨b0, o0, none⟩), .pointer (some ⟨b1, o1, none⟩), vk] W (GivesW W)) :
    Calls Try.prog 48 #[.pointer (some ⟨b0, o0, none⟩), .pointer (some ⟨b1, o1, none⟩), .int .i64 4] w (GivesW2 w) := by
  have hB1 : Below w.heap.size w (w.alloc (.cells #[.int .i64 0, .int .i64 0, .slice none 0 0, .slice none 0 0] 36)) := (Below.refl _ _).alloc (Nat.le_refl _) _
  have HB1 := hid hB1
  have HN1 := hid (show (w.alloc (.cells #[.int .i64 0, .int .i64 0, .slice none 0 0, .slice none 0 0] 36)).heap[w.heap.size]? = some (.cells #[.int .i64 0, .int .i64 0, .slice none 0 0, .slice none 0 0] 36) from heap_alloc_new w _)
  obtain ⟨ads1, cds1, aks1, cks1, x0, x1, x2, x3, hr⟩ := id hat
  have l1 := World.block_lt_of_cell? _ _ x0
  have y3 := (hB1.cell (p := ⟨b1, o1 + 3, none⟩) l1).trans x3
  have HEX := hid (hex (.slice aks1 ks1.length cks1) (w.alloc (.cells #[.int .i64 0, .int .i64 0, .slice none 0 0, .slice none 0 0] 36)) hB1 (hr.fCo.2.2.2.below hB1))
  clear hr x0 x1 x2 x3 hB1 hat hex
  go_enter Try.func48, Try.ntmps48
  go_wp2_with fail
  refine HEX.out.mono ?_
  rintro e V1 ⟨k5, v5, a5, n5, c5, p5, m5, d5, rfl, hb⟩
  have HB2 := hid (HB1.out.trans (hb.mono (by simp)))
  have HN2 := hid ((hb.block w.heap.size (by simp)).trans HN1.out)
  clear hb y3
  have z0 := heap_free HN2.out 0
  have r0 := heap_cell HN2.out (j := 0) rfl
  have z1 := heap_free HN2.out 1
  have r1 := heap_cell HN2.out (j := 1) rfl
  have z2 := heap_free HN2.out 2
  have r2 := heap_cell HN2.out (j := 2) rfl
  have z3 := heap_free HN2.out 3
  have r3 := heap_cell HN2.out (j := 3) rfl
  go_wp2_with fail
  have hS := set4 HN2.out (.int .i64 k5) (.int .i64 v5) (.slice a5 n5 c5) (.slice p5 m5 d5)
  have hc0 := heap_cell hS (j := 0) rfl
  have hc1 := heap_cell hS (j := 1) rfl
  have hc2 := heap_cell hS (j := 2) rfl
  have hc3 := heap_cell hS (j := 3) rfl
  refine bodyPost_ret (v := .tuple #[.agg #[.int .i64 k5, .int .i64 v5, .slice a5 n5 c5, .slice p5 m5 d5], .int .i64 0]) (by simp [results, Try.results48, go_sem, hc0, hc1, hc2, hc3]) rfl ?_
  exact ⟨_, _, _, _, _, _, _, _, _, rfl, set4_below HB2.out (Nat.le_refl _) _ _ _ _⟩
theorem spec_contract (fs : List Co) (afs : Option Addr) (cfs : Nat) (k1 v1 : Int) (ds1 : List Int) (ks1 : List Co) (b0 o0 b1 o1 : Nat) (w : World) (hz0 : redx k1 ds1.length ks1 ≠ 0) (hg : Co.good (Co.mk k1 v1 ds1 ks1) = true) (hrf : Co.refs (Co.mk k1 v1 ds1 ks1) (fs.length : Int) = true) (hM : Co.bulk (Co.mk k1 v1 ds1 ks1) ≤ 1048576) (yb : w.cell? ⟨b0, o0, none⟩ = some (.slice afs fs.length cfs)) (hrb : RdL w (Co.ds fs) (.slice afs fs.length cfs)) (hat : AtC w b1 o1 (Co.mk k1 v1 ds1 ks1)) :
    Calls Try.prog 48 #[.pointer (some ⟨b0, o0, none⟩), .pointer (some ⟨b1, o1, none⟩), .int .i64 (redx k1 ds1.length ks1)] w (GivesW2 w) := by
  have hbk : Co.bulk (Co.mk k1 v1 ds1 ks1) = In.bulks ds1 + Co.bulks ks1 := rfl
  have hcl := Co.bulks_length ks1
  rcases redx_five k1 ds1.length ks1 with h | h | h | h | h
  · exact absurd h hz0
  · rw [h]
    obtain ⟨rfl, v0, d0, q0, r, rfl⟩ := redx_one h
    obtain ⟨x, y, hx, hgx, hgy⟩ := good_two hg (by omega)
    simp only [List.cons.injEq] at hx
    obtain ⟨rfl, rfl⟩ := hx
    obtain ⟨u, rfl, _⟩ := good_one hgx (by omega)
    have hM' := hM
    simp only [Co.bulks, Co.bulk] at hM'
    exact contract_one v1 ds1 v0 d0 u y b0 o0 b1 o1 w (by omega) (by omega) hat
  · rw [h]
    obtain ⟨rfl, v0, d0, q0, v2, d2, q2, r, rfl⟩ := redx_two h
    obtain ⟨x, y, hx, _, _⟩ := good_two hg (by omega)
    simp only [List.cons.injEq] at hx
    obtain ⟨rfl, rfl, rfl⟩ := hx
    exact contract_two v1 ds1 v0 v2 d0 d2 q0 q2 b0 o0 b1 o1 w hat
  · rw [h]
    have hks : ∃ k0 v0 d0 q0, ks1 = [.mk k0 v0 d0 q0] := by
      rcases redx_three h with ⟨rfl, v0, d0, q0, r, rfl, _⟩ | ⟨rfl, v0, d0, q0, r, rfl⟩
      · obtain ⟨x, hx, _⟩ := good_one hg (by omega)
        simp only [List.cons.injEq] at hx
        exact ⟨_, _, _, _, by rw [hx.2]⟩
      · obtain ⟨x, hx, _⟩ := good_one hg (by omega)
        simp only [List.cons.injEq] at hx
        exact ⟨_, _, _, _, by rw [hx.2]⟩
    obtain ⟨k0, v0, d0, q0, rfl⟩ := hks
    exact contract_three k1 v1 ds1 k0 v0 d0 q0 b0 o0 b1 o1 w h hg hat
  · rw [h]
    have lb := World.block_lt_of_cell? _ _ yb
    refine contract_four k1 v1 ds1 ks1 b0 o0 b1 o1 w hat fun vk W hb hk => ?_
    have yb' := (hb.cell (p := ⟨b0, o0, none⟩) lb).trans yb
    have hgs := (Co.good_mk hg).2
    rcases redx_four h with ⟨v0, d0, q0, r, rfl⟩ | ⟨k0, v0, d0, q0, v2, d2, q2, r, rfl, hne⟩
    · have h1 := good_val (Co.goods_get _ 0 _ hgs rfl) (by omega)
      have h2 := refs_val (refss_get _ _ 0 _ (refs_kids hrf) rfl)
      exact expand_0 fs afs cfs k1 v1 ds1 _ b0 o0 b1 o1 vk v0 d0 q0 W (by omega) yb' (hrb.below hb) (hat.below hb) hk rfl h1 h2
    · have h1 := good_val (Co.goods_get _ 1 _ hgs rfl) (by omega)
      have h2 := refs_val (refss_get _ _ 1 _ (refs_kids hrf) rfl)
      exact expand_1 fs afs cfs k1 v1 ds1 _ b0 o0 b1 o1 vk v2 d2 q2 k0 v0 d0 q0 W (by omega) yb' (hrb.below hb) (hat.below hb) hk rfl h1 h2 rfl hne
end Go.Proofs.Ytejdbmeoaekhcaa
/- was: NorK -/
namespace Go.Proofs.Ytejdbmeoaekhcaa
open Go.ChangeShapes Go.WideShapes Go.ChangeAt Go.RowKit Go.BigFrame
open Go.Sort (grow)
set_option linter.unusedVariables false

set_option maxRecDepth 100000 in
set_option maxHeartbeats 4000000 in
theorem spec_kind (k1 v1 : Int) (ds1 : List Int) (ks1 : List Co) (b1 o1 : Nat) (w : World) (hg : Co.good (Co.mk k1 v1 ds1 ks1) = true) (hat : AtC w b1 o1 (Co.mk k1 v1 ds1 ks1)) :
    Calls Try.prog 47 #[.pointer (some ⟨b1, o1, none⟩)] w fun e w' => e = .returned (.int .i64 (redx k1 ds1.length ks1)) ∧ Below w.heap.size w w' := by
  obtain ⟨ads1, cds1, aks1, cks1, x0, x1, x2, x3, hr⟩ := hat
  by_cases hk15 : k1 = 5
  case pos =>
    subst hk15
    obtain ⟨⟨k3, v3, ds3, ks3⟩, ⟨k4, v4, ds4, ks4⟩, hks, hg3, hg4⟩ := good_two hg (by omega)
    subst hks
    obtain ⟨aq, cq, e, _, _, hall⟩ := kids_at hr.fCo.2.2.2
    simp only [Value.slice.injEq, true_and] at e
    obtain ⟨rfl, rfl⟩ := e
    obtain ⟨bq, oq, rfl, hlq, hall⟩ := hall (by simp)
    obtain ⟨ad3, cd3, ak3, ck3, q0, q1, q2, q3, _⟩ := hall 0 _ rfl
    obtain ⟨ad4, cd4, ak4, ck4, u0, u1, u2, u3, _⟩ := hall 1 _ rfl
    simp only [Nat.zero_mul, Nat.add_zero, Nat.one_mul] at q0 q1 q2 q3 u0 u1 u2 u3
    have x3' : w.cell? ⟨b1, o1 + 3, none⟩ = some (.slice (some ⟨bq, oq, none⟩) 2 cks1) := x3
    clear x3 hall hr hg hg3 hg4
    by_cases hk34 : k3 = 4
    case pos =>
      subst hk34
      go_enter Try.func47, Try.ntmps47
      go_wp2_with fail
      go_ret
      exact ⟨by simp [redx, *], Below.refl _ _⟩
    case neg =>
      have gk34 : (k3 == 4) = false := by simp [hk34]
      by_cases hk311 : k3 = 11
      case pos =>
        subst hk311
        go_enter Try.func47, Try.ntmps47
        go_wp2_with fail
        go_ret
        exact ⟨by simp [redx, *], Below.refl _ _⟩
      case neg =>
        have gk311 : (k3 == 11) = false := by simp [hk311]
        go_enter Try.func47, Try.ntmps47
        go_wp2_with fail
        go_ret
        exact ⟨by simp [redx, *], Below.refl _ _⟩
  case neg =>
    have gk15 : (k1 == 5) = false := by simp [hk15]
    by_cases hk13 : k1 = 3
    case pos =>
      subst hk13
      obtain ⟨⟨k3, v3, ds3, ks3⟩, ⟨k4, v4, ds4, ks4⟩, hks, hg3, hg4⟩ := good_two hg (by omega)
      subst hks
      obtain ⟨aq, cq, e, _, _, hall⟩ := kids_at hr.fCo.2.2.2
      simp only [Value.slice.injEq, true_and] at e
      obtain ⟨rfl, rfl⟩ := e
      obtain ⟨bq, oq, rfl, hlq, hall⟩ := hall (by simp)
      obtain ⟨ad3, cd3, ak3, ck3, q0, q1, q2, q3, _⟩ := hall 0 _ rfl
      obtain ⟨ad4, cd4, ak4, ck4, u0, u1, u2, u3, _⟩ := hall 1 _ rfl
      simp only [Nat.zero_mul, Nat.add_zero, Nat.one_mul] at q0 q1 q2 q3 u0 u1 u2 u3
      have x3' : w.cell? ⟨b1, o1 + 3, none⟩ = some (.slice (some ⟨bq, oq, none⟩) 2 cks1) := x3
      clear x3 hall hr hg hg3 hg4
      by_cases hk311 : k3 = 11
      case pos =>
        subst hk311
        go_enter Try.func47, Try.ntmps47
        go_wp2_with fail
        go_ret
        exact ⟨by simp [redx, *], Below.refl _ _⟩
      case neg =>
        have gk311 : (k3 == 11) = false := by simp [hk311]
        by_cases hk32 : k3 = 2
        case pos =>
          subst hk32
          by_cases hk42 : k4 = 2
          case pos =>
            subst hk42
            go_enter Try.func47, Try.ntmps47
            go_wp2_with fail
            go_ret
            exact ⟨by simp [redx, *], Below.refl _ _⟩
          case neg =>
            have gk42 : (k4 == 2) = false := by simp [hk42]
            by_cases hk411 : k4 = 11
            case pos =>
              subst hk411
              go_enter Try.func47, Try.ntmps47
              go_wp2_with fail
              go_ret
              exact ⟨by simp [redx, *], Below.refl _ _⟩
            case neg =>
              have gk411 : (k4 == 11) = false := by simp [hk411]
              go_enter Try.func47, Try.ntmps47
              go_wp2_with fail
              go_ret
              exact ⟨by simp [redx, *], Below.refl _ _⟩
        case neg =>
          have gk32 : (k3 == 2) = false := by simp [hk32]
          go_enter Try.func47, Try.ntmps47
          go_wp2_with fail
          go_ret
          exact ⟨by simp [redx, *], Below.refl _ _⟩
    case neg =>
      have gk13 : (k1 == 3) = false := by simp [hk13]
      by_cases hk19 : k1 = 9
      case pos =>
        subst hk19
        obtain ⟨⟨k3, v3, ds3, ks3⟩, hks, hg3⟩ := good_one hg (by omega)
        subst hks
        obtain ⟨aq, cq, e, _, _, hall⟩ := kids_at hr.fCo.2.2.2
        simp only [Value.slice.injEq, true_and] at e
        obtain ⟨rfl, rfl⟩ := e
        obtain ⟨bq, oq, rfl, hlq, hall⟩ := hall (by simp)
        obtain ⟨ad3, cd3, ak3, ck3, q0, q1, q2, q3, _⟩ := hall 0 _ rfl
        simp only [Nat.zero_mul, Nat.add_zero] at q0 q1 q2 q3
        have x3' : w.cell? ⟨b1, o1 + 3, none⟩ = some (.slice (some ⟨bq, oq, none⟩) 1 cks1) := x3
        clear x3 hall hr hg hg3
        by_cases hk38 : k3 = 8
        case pos =>
          subst hk38
          by_cases hvn : v3 < (ds1.length : Int)
          case pos =>
            have hvd : decide (v3 < (ds1.length : Int)) = true := decide_eq_true hvn
            go_enter Try.func47, Try.ntmps47
            go_wp2_with fail
            go_quiet (fail)
            go_wp2_with fail
            go_ret
            exact ⟨by simp [redx, *], ⟨rfl, rfl, rfl, Nat.le_refl _, fun _ _ => rfl⟩⟩
          case neg =>
            have hvd : decide (v3 < (ds1.length : Int)) = false := decide_eq_false hvn
            go_enter Try.func47, Try.ntmps47
            go_wp2_with fail
            go_quiet (fail)
            go_wp2_with fail
            go_ret
            exact ⟨by simp [redx, *], ⟨rfl, rfl, rfl, Nat.le_refl _, fun _ _ => rfl⟩⟩
        case neg =>
          have gk38 : (k3 == 8) = false := by simp [hk38]
          by_cases hk311 : k3 = 11
          case pos =>
            subst hk311
            go_enter Try.func47, Try.ntmps47
            go_wp2_with fail
            go_quiet (fail)
            go_wp2_with fail
            go_ret
            exact ⟨by simp [redx, *], ⟨rfl, rfl, rfl, Nat.le_refl _, fun _ _ => rfl⟩⟩
          case neg =>
            have gk311 : (k3 == 11) = false := by simp [hk311]
            go_enter Try.func47, Try.ntmps47
            go_wp2_with fail
            go_quiet (fail)
            go_wp2_with fail
            go_ret
            exact ⟨by simp [redx, *], ⟨rfl, rfl, rfl, Nat.le_refl _, fun _ _ => rfl⟩⟩
      case neg =>
        have gk19 : (k1 == 9) = false := by simp [hk19]
        by_cases hk110 : k1 = 10
        case pos =>
          subst hk110
          obtain ⟨⟨k3, v3, ds3, ks3⟩, hks, hg3⟩ := good_one hg (by omega)
          subst hks
          obtain ⟨aq, cq, e, _, _, hall⟩ := kids_at hr.fCo.2.2.2
          simp only [Value.slice.injEq, true_and] at e
          obtain ⟨rfl, rfl⟩ := e
          obtain ⟨bq, oq, rfl, hlq, hall⟩ := hall (by simp)
          obtain ⟨ad3, cd3, ak3, ck3, q0, q1, q2, q3, _⟩ := hall 0 _ rfl
          simp only [Nat.zero_mul, Nat.add_zero] at q0 q1 q2 q3
          have x3' : w.cell? ⟨b1, o1 + 3, none⟩ = some (.slice (some ⟨bq, oq, none⟩) 1 cks1) := x3
          clear x3 hall hr hg hg3
          by_cases hk32 : k3 = 2
          case pos =>
            subst hk32
            go_enter Try.func47, Try.ntmps47
            go_wp2_with fail
            go_ret
            exact ⟨by simp [redx, *], Below.refl _ _⟩
          case neg =>
            have gk32 : (k3 == 2) = false := by simp [hk32]
            by_cases hk311 : k3 = 11
            case pos =>
              subst hk311
              go_enter Try.func47, Try.ntmps47
              go_wp2_with fail
              go_ret
              exact ⟨by simp [redx, *], Below.refl _ _⟩
            case neg =>
              have gk311 : (k3 == 11) = false := by simp [hk311]
              go_enter Try.func47, Try.ntmps47
              go_wp2_with fail
              go_ret
              exact ⟨by simp [redx, *], Below.refl _ _⟩
        case neg =>
          have gk110 : (k1 == 10) = false := by simp [hk110]
          have HRX := hid (show redx k1 ds1.length ks1 = (0 : Int) from by cases ks1 with
            | nil => rfl
            | cons x r => obtain ⟨k, v, ds, ks⟩ := x; simp [redx, *])
          rw [HRX.out]
          clear hr hg x1 x2 x3
          go_enter Try.func47, Try.ntmps47
          go_wp2_with fail
          go_ret
          exact ⟨rfl, Below.refl _ _⟩
end Go.Proofs.Ytejdbmeoaekhcaa
/- was: Inn -/
namespace Go.Proofs.Ytejdbmeoaekhcaa
open Go.ChangeShapes Go.WideShapes Go.ChangeAt Go.RowKit
open Go.Sort (grow)
set_option linter.unusedVariables false

def GivesK (b : Bool) (w : World) (e : Ending) (w' : World) : Prop := ∃ (k v : Int) (a : Option Addr) (n c : Nat) (a' : Option Addr) (n' c' : Nat) (z q : Int), e = .returned (.tuple #[.agg #[.int .i64 k, .int .i64 v, .slice a n c, .slice a' n' c'], .int .i64 z, .int .i64 q]) ∧ decide (z = 0) = b ∧ Below w.heap.size w w'
def InnW (fs : List Co) (afs : Option Addr) (cfs : Nat) (N : Nat) : Prop := ∀ (t : Co) (b0 o0 b1 o1 : Nat) (w : World), Co.bulk t < N → Co.bulk t ≤ 1048576 → Co.good t = true → Co.refs t (fs.length : Int) = true → w.cell? ⟨b0, o0, none⟩ = some (.slice afs fs.length cfs) → RdL w (Co.ds fs) (.slice afs fs.length cfs) → AtC w b1 o1 t →
  Calls Try.prog 23 #[.pointer (some ⟨b0, o0, none⟩), .pointer (some ⟨b1, o1, none⟩)] w (GivesK (Co.nor t) w)
set_option maxRecDepth 100000 in
set_option maxHeartbeats 4000000 in
theorem inner_redex (fs : List Co) (afs : Option Addr) (cfs : Nat) (k1 v1 : Int) (ds1 : List Int) (ks1 : List Co) (b0 o0 b1 o1 : Nat) (w : World) (hz0 : redx k1 ds1.length ks1 ≠ 0) (hg : Co.good (Co.mk k1 v1 ds1 ks1) = true) (hrf : Co.refs (Co.mk k1 v1 ds1 ks1) (fs.length : Int) = true) (hM : Co.bulk (Co.mk k1 v1 ds1 ks1) ≤ 1048576) (yb : w.cell? ⟨b0, o0, none⟩ = some (.slice afs fs.length cfs)) (hrb : RdL w (Co.ds fs) (.slice afs fs.length cfs)) (hat : AtC w b1 o1 (Co.mk k1 v1 ds1 ks1)) :
    Calls Try.prog 23 #[.pointer (some ⟨b0, o0, none⟩), .pointer (some ⟨b1, o1, none⟩)] w (GivesK (Co.nor (Co.mk k1 v1 ds1 ks1)) w) := by
  have hB1 : Below w.heap.size w (w.alloc (.cells #[.int .i64 0, .int .i64 0, .slice none 0 0, .slice none 0 0] 36)) := (Below.refl _ _).alloc (Nat.le_refl _) _
  have HB1 := hid hB1
  have HN1 := hid (show (w.alloc (.cells #[.int .i64 0, .int .i64 0, .slice none 0 0, .slice none 0 0] 36)).heap[w.heap.size]? = some (.cells #[.int .i64 0, .int .i64 0, .slice none 0 0, .slice none 0 0] 36) from heap_alloc_new w _)
  have lb := World.block_lt_of_cell? _ _ yb
  have hkd := spec_kind k1 v1 ds1 ks1 b1 o1 (w.alloc (.cells #[.int .i64 0, .int .i64 0, .slice none 0 0, .slice none 0 0] 36)) hg (hat.below hB1)
  have hct := fun (W : World) (hb : Below w.heap.size w W) => spec_contract fs afs cfs k1 v1 ds1 ks1 b0 o0 b1 o1 W hz0 hg hrf hM ((hb.cell (p := ⟨b0, o0, none⟩) lb).trans yb) (hrb.below hb) (hat.below hb)
  have hnr : Co.nor (Co.mk k1 v1 ds1 ks1) = false := by rw [Co.nor_mk, decide_eq_false hz0]; rfl
  rw [hnr]
  generalize redx k1 ds1.length ks1 = z at hkd hct hz0
  have gz : (z == 0) = false := by simp [hz0]
  have HKD := hid hkd
  have HCT := hid hct
  have HZ := hid hz0
  clear hkd hct hB1 hg hrf hM yb hrb hat hnr lb hz0
  go_enter Try.func23, Try.ntmps23
  go_wp2_with fail
  refine HKD.out.mono ?_
  rintro e w2 ⟨rfl, hb⟩
  have HB2 := hid (HB1.out.trans (hb.mono (by simp)))
  have HN2 := hid ((hb.block w.heap.size (by simp)).trans HN1.out)
  clear hb
  go_wp2_with fail
  refine (HCT.out _ HB2.out).mono ?_
  rintro e w3 ⟨k5, v5, a5, n5, c5, p5, m5, d5, z5, rfl, hb⟩
  have hal : Below w3.heap.size w3 (w3.alloc (.cells #[.int .i64 k5, .int .i64 v5, .slice a5 n5 c5, .slice p5 m5 d5] 36)) := (Below.refl _ _).alloc (Nat.le_refl _) _
  have HB3 := hid (HB2.out.trans ((hb.trans (hal.mono hb.size)).mono HB2.out.size))
  have HN3 := hid (((hb.trans (hal.mono hb.size)).block w.heap.size (Array.getElem?_eq_some_iff.1 HN2.out).1).trans HN2.out)
  clear hb hal
  have z0 := heap_free HN3.out 0
  have r0 := heap_cell HN3.out (j := 0) rfl
  have z1 := heap_free HN3.out 1
  have r1 := heap_cell HN3.out (j := 1) rfl
  have z2 := heap_free HN3.out 2
  have r2 := heap_cell HN3.out (j := 2) rfl
  have z3 := heap_free HN3.out 3
  have r3 := heap_cell HN3.out (j := 3) rfl
  go_wp2_with fail
  have hS := set4 HN3.out (.int .i64 k5) (.int .i64 v5) (.slice a5 n5 c5) (.slice p5 m5 d5)
  have hc0 := heap_cell hS (j := 0) rfl
  have hc1 := heap_cell hS (j := 1) rfl
  have hc2 := heap_cell hS (j := 2) rfl
  have hc3 := heap_cell hS (j := 3) rfl
  refine bodyPost_ret (v := .tuple #[.agg #[.int .i64 k5, .int .i64 v5, .slice a5 n5 c5, .slice p5 m5 d5], .int .i64 z, .int .i64 z5]) (by simp [results, Try.results23, go_sem, hc0, hc1, hc2, hc3]) rfl ?_
  exact ⟨_, _, _, _, _, _, _, _, _, _, rfl, decide_eq_false HZ.out, set4_below HB3.out (Nat.le_refl _) _ _ _ _⟩
set_option maxRecDepth 100000 in
set_option maxHeartbeats 8000000 in
theorem inner_kids (fs : List Co) (afs : Option Addr) (cfs : Nat) (N : Nat) (ih : InnW fs afs cfs N) (k1 v1 : Int) (ds1 : List Int) (ks1 : List Co) (b0 o0 b1 o1 : Nat) (w : World) (hN : Co.bulk (Co.mk k1 v1 ds1 ks1) < N + 1) (hz0 : redx k1 ds1.length ks1 = 0) (hg : Co.good (Co.mk k1 v1 ds1 ks1) = true) (hrf : Co.refs (Co.mk k1 v1 ds1 ks1) (fs.length : Int) = true) (hM : Co.bulk (Co.mk k1 v1 ds1 ks1) ≤ 1048576) (yb : w.cell? ⟨b0, o0, none⟩ = some (.slice afs fs.length cfs)) (hrb : RdL w (Co.ds fs) (.slice afs fs.length cfs)) (hat : AtC w b1 o1 (Co.mk k1 v1 ds1 ks1)) :
    Calls Try.prog 23 #[.pointer (some ⟨b0, o0, none⟩), .pointer (some ⟨b1, o1, none⟩)] w (GivesK (Co.nor (Co.mk k1 v1 ds1 ks1)) w) := by
  obtain ⟨i0, hi, hz0', hz1, hz2⟩ := info_parts infoCo
  have HI := hid hi
  have hbk : Co.bulk (Co.mk k1 v1 ds1 ks1) = In.bulks ds1 + Co.bulks ks1 := rfl
  have hcl := Co.bulks_length ks1
  have hlk : ks1.length ≤ 1048576 := by omega
  have hB1 : Below w.heap.size w (w.alloc (.cells #[.int .i64 0, .int .i64 0, .slice none 0 0, .slice none 0 0] 36)) := (Below.refl _ _).alloc (Nat.le_refl _) _
  have HB1 := hid hB1
  have HN1 := hid (show (w.alloc (.cells #[.int .i64 0, .int .i64 0, .slice none 0 0, .slice none 0 0] 36)).heap[w.heap.size]? = some (.cells #[.int .i64 0, .int .i64 0, .slice none 0 0, .slice none 0 0] 36) from heap_alloc_new w _)
  have lb := World.block_lt_of_cell? _ _ yb
  have hkd := spec_kind k1 v1 ds1 ks1 b1 o1 (w.alloc (.cells #[.int .i64 0, .int .i64 0, .slice none 0 0, .slice none 0 0] 36)) hg (hat.below hB1)
  rw [hz0] at hkd
  have HNR := hid (show Co.nor (Co.mk k1 v1 ds1 ks1) = Co.nors ks1 by rw [Co.nor_mk, decide_eq_true hz0]; rfl)
  rw [HNR.out]
  obtain ⟨ads1, cds1, aks1, cks1, x0, x1, x2, x3, hr⟩ := hat
  obtain ⟨_, _, e, hc1, hc2, hall⟩ := kids_at hr.fCo.2.2.2
  simp only [Value.slice.injEq, true_and] at e
  obtain ⟨rfl, rfl⟩ := e
  have l1 := World.block_lt_of_cell? _ _ x0
  have hic := fun (j : Nat) (t : Co) (hj : ks1[j]? = some t) (b o : Nat) (W : World) (hb : Below w.heap.size w W) (h : AtC W b o t) => ih t b0 o0 b o W (by have := Co.bulk_get ks1 j t hj; omega) (by have := Co.bulk_get ks1 j t hj; omega) (Co.goods_get ks1 j t (Co.good_mk hg).2 hj) (refss_get ks1 _ j t (refs_kids hrf) hj) ((hb.cell (p := ⟨b0, o0, none⟩) lb).trans yb) (hrb.below hb) h
  have HIC := hid hic
  have HKD := hid hkd
  have HALL := hid hall
  have X0 := hid x0
  have X1 := hid x1
  have X2 := hid x2
  have X3 := hid x3
  clear hkd hic hB1 hg hrf hM yb hrb hr hall lb hz0 ih hN hbk hi x0 x1 x2 x3
  go_enter Try.func23, Try.ntmps23
  go_wp2_with fail
  refine HKD.out.mono ?_
  rintro e w2 ⟨rfl, hb⟩
  have HB2 := hid (HB1.out.trans (hb.mono (by simp)))
  have HN2 := hid ((hb.block w.heap.size (by simp)).trans HN1.out)
  clear hb
  go_wp2_with fail
  go_loopw [10, 11, 12, 13, 14] (fun i _ _ _ _ wr => ∃ (j : Nat), j ≤ ks1.length ∧ i = .int .i64 j ∧ Hid (∀ (i : Nat) t, i < j → ks1[i]? = some t → Co.nor t = true) ∧ Hid (wr.heap[w.heap.size]? = some (.cells #[.int .i64 0, .int .i64 0, .slice none 0 0, .slice none 0 0] 36)) ∧ Hid (Below w.heap.size w wr)) (fun i _ _ _ _ _ => ks1.length - (intOf i).toNat)
  case atStart => exact ⟨0, by omega, rfl, hid (fun i t hi => absurd hi (by omega)), HN2, HB2⟩
  case round =>
    obtain ⟨j, hj, rfl, HJ, HN, HB⟩ := hrel
    have z3 := (HB.out.cell (p := ⟨b1, o1 + 3, none⟩) l1).trans X3.out
    by_cases hlt : j < ks1.length
    case neg =>
      have z0 := heap_free HN.out 0
      have r0 := heap_cell HN.out (j := 0) rfl
      have z1 := heap_free HN.out 1
      have r1 := heap_cell HN.out (j := 1) rfl
      have z2 := heap_free HN.out 2
      have r2 := heap_cell HN.out (j := 2) rfl
      have z3 := heap_free HN.out 3
      have r3 := heap_cell HN.out (j := 3) rfl
      go_wp2_with fail
      have hS := set4 HN.out (.int .i64 0) (.int .i64 0) (.slice none 0 0) (.slice none 0 0)
      have hc0 := heap_cell hS (j := 0) rfl
      have hc1 := heap_cell hS (j := 1) rfl
      have hc2 := heap_cell hS (j := 2) rfl
      have hc3 := heap_cell hS (j := 3) rfl
      refine bodyPost_ret (v := .tuple #[.agg #[.int .i64 0, .int .i64 0, .slice none 0 0, .slice none 0 0], .int .i64 0, .int .i64 0]) (by simp [results, Try.results23, go_sem, hc0, hc1, hc2, hc3]) rfl ?_
      exact ⟨_, _, _, _, _, _, _, _, _, _, rfl, (Co.nors_yes ks1 fun i t hti => HJ.out i t (by have := (List.getElem?_eq_some_iff.1 hti).1; omega) hti).symm ▸ rfl, set4_below HB.out (Nat.le_refl _) _ _ _ _⟩
    case pos =>
      have hpos : 0 < ks1.length := by omega
      obtain ⟨bq, oq, rfl, hlq, hall⟩ := HALL.out hpos
      obtain ⟨news, hnl, hnews, hone⟩ := kid_cells hall
      obtain ⟨t, ht⟩ : ∃ t, ks1[j]? = some t := ⟨_, List.getElem?_eq_getElem hlt⟩
      have hc := HIC.out j t ht bq (oq + j * 4) wr HB.out ((hall j t ht).below HB.out)
      have HC := hid hc
      have HT := hid ht
      clear hc hall HALL ht
      go_wp2_with fail
      refine HC.out.mono ?_
      rintro e V1 ⟨k5, v5, a5, n5, c5, p5, m5, d5, z5, q5, rfl, hz5, hb⟩
      have hal : Below V1.heap.size V1 (V1.alloc (.cells #[.int .i64 k5, .int .i64 v5, .slice a5 n5 c5, .slice p5 m5 d5] 36)) := (Below.refl _ _).alloc (Nat.le_refl _) _
      have HBW := hid (HB.out.trans ((hb.trans (hal.mono hb.size)).mono HB.out.size))
      have HNW := hid (((hb.trans (hal.mono hb.size)).block w.heap.size (Array.getElem?_eq_some_iff.1 HN.out).1).trans HN.out)
      have HV1 := hid (show w.heap.size < V1.heap.size from Nat.lt_of_lt_of_le (Array.getElem?_eq_some_iff.1 HN.out).1 hb.size)
      have HZ5 := hid hz5
      clear hb hal HC z3 hz5
      by_cases hq : Co.nor t = true
      case pos =>
        have hzz : z5 = 0 := by have h := HZ5.out; rw [hq] at h; exact of_decide_eq_true h
        subst hzz
        have HQ := hid hq
        clear hnews hone hnl hq HZ5
        go_wp2_with fail
        go_roundw
        case rel => exact ⟨j + 1, by omega, by go_num, hid (fun i t' hi hti => (Nat.lt_succ_iff_lt_or_eq.1 hi).elim (fun hi => HJ.out i t' hi hti) (fun he => by subst he; obtain rfl := Option.some.inj (hti.symm.trans HT.out); exact HQ.out)), HNW, HBW⟩
        case measure => simp [intOf]; omega
      case neg =>
        have hzn : z5 ≠ 0 := by have h := HZ5.out; rw [(Bool.not_eq_true _).mp hq] at h; exact of_decide_eq_false h
        have gz : (z5 == 0) = false := by simp [hzn]
        have HRES := hid (show decide (z5 = 0) = Co.nors ks1 by rw [decide_eq_false hzn, Co.nors_no ks1 j t HT.out ((Bool.not_eq_true _).mp hq)])
        have y0 := (HBW.out.cell (p := ⟨b1, o1, none⟩) l1).trans X0.out
        have y1 := (HBW.out.cell (p := ⟨b1, o1 + 1, none⟩) l1).trans X1.out
        have y2 := (HBW.out.cell (p := ⟨b1, o1 + 2, none⟩) l1).trans X2.out
        have y3 := (HBW.out.cell (p := ⟨b1, o1 + 3, none⟩) l1).trans X3.out
        have h63 : 0 + ks1.length ≤ maxLen := by simp only [maxLen]; omega
        have hby : (0 + ks1.length) * 64 ≤ 140737488355328 := by omega
        have HK1 := hid (heap_alloc_new V1 (.cells #[.int .i64 k5, .int .i64 v5, .slice a5 n5 c5, .slice p5 m5 d5] 36))
        clear HZ5 hq hzn HIC HJ
        go_wp2_with fail
        have hS0 : (Below (V1.alloc (.cells #[.int .i64 k5, .int .i64 v5, .slice a5 n5 c5, .slice p5 m5 d5] 36)).heap.size (V1.alloc (.cells #[.int .i64 k5, .int .i64 v5, .slice a5 n5 c5, .slice p5 m5 d5] 36)) ((V1.alloc (.cells #[.int .i64 k5, .int .i64 v5, .slice a5 n5 c5, .slice p5 m5 d5] 36))).drew ∧ ((V1.alloc (.cells #[.int .i64 k5, .int .i64 v5, .slice a5 n5 c5, .slice p5 m5 d5] 36))).drew.cell? ⟨b1, o1, none⟩ = some (.int .i64 k1) ∧ ((V1.alloc (.cells #[.int .i64 k5, .int .i64 v5, .slice a5 n5 c5, .slice p5 m5 d5] 36))).drew.cell? ⟨b1, o1 + 1, none⟩ = some (.int .i64 v1) ∧ ((V1.alloc (.cells #[.int .i64 k5, .int .i64 v5, .slice a5 n5 c5, .slice p5 m5 d5] 36))).drew.cell? ⟨b1, o1 + 2, none⟩ = some (.slice ads1 ds1.length cds1) ∧ ((V1.alloc (.cells #[.int .i64 k5, .int .i64 v5, .slice a5 n5 c5, .slice p5 m5 d5] 36))).drew.cell? ⟨b1, o1 + 3, none⟩ = some (.slice (some ⟨bq, oq, none⟩) ks1.length cks1)) := ⟨(Below.refl _ _).drew, y0, y1, y2, y3⟩
        have hkeep : ∀ V V' : World, Below (V1.alloc (.cells #[.int .i64 k5, .int .i64 v5, .slice a5 n5 c5, .slice p5 m5 d5] 36)).heap.size V V' → ((Below (V1.alloc (.cells #[.int .i64 k5, .int .i64 v5, .slice a5 n5 c5, .slice p5 m5 d5] 36)).heap.size (V1.alloc (.cells #[.int .i64 k5, .int .i64 v5, .slice a5 n5 c5, .slice p5 m5 d5] 36)) V ∧ V.cell? ⟨b1, o1, none⟩ = some (.int .i64 k1) ∧ V.cell? ⟨b1, o1 + 1, none⟩ = some (.int .i64 v1) ∧ V.cell? ⟨b1, o1 + 2, none⟩ = some (.slice ads1 ds1.length cds1) ∧ V.cell? ⟨b1, o1 + 3, none⟩ = some (.slice (some ⟨bq, oq, none⟩) ks1.length cks1))) → ((Below (V1.alloc (.cells #[.int .i64 k5, .int .i64 v5, .slice a5 n5 c5, .slice p5 m5 d5] 36)).heap.size (V1.alloc (.cells #[.int .i64 k5, .int .i64 v5, .slice a5 n5 c5, .slice p5 m5 d5] 36)) V' ∧ V'.cell? ⟨b1, o1, none⟩ = some (.int .i64 k1) ∧ V'.cell? ⟨b1, o1 + 1, none⟩ = some (.int .i64 v1) ∧ V'.cell? ⟨b1, o1 + 2, none⟩ = some (.slice ads1 ds1.length cds1) ∧ V'.cell? ⟨b1, o1 + 3, none⟩ = some (.slice (some ⟨bq, oq, none⟩) ks1.length cks1))) := fun V V' hb ⟨h, h0, h1, h2, h3⟩ => ⟨h.trans hb, (hb.cell (p := ⟨b1, o1, none⟩) (World.block_lt_of_cell? _ _ y0)).trans h0, (hb.cell (p := ⟨b1, o1 + 1, none⟩) (World.block_lt_of_cell? _ _ y1)).trans h1, (hb.cell (p := ⟨b1, o1 + 2, none⟩) (World.block_lt_of_cell? _ _ y2)).trans h2, (hb.cell (p := ⟨b1, o1 + 3, none⟩) (World.block_lt_of_cell? _ _ y3)).trans h3⟩
        have KEEP := hid hkeep
        have KAL := hid (fun (V : World) (ob : Obj) (h : (Below (V1.alloc (.cells #[.int .i64 k5, .int .i64 v5, .slice a5 n5 c5, .slice p5 m5 d5] 36)).heap.size (V1.alloc (.cells #[.int .i64 k5, .int .i64 v5, .slice a5 n5 c5, .slice p5 m5 d5] 36)) V ∧ V.cell? ⟨b1, o1, none⟩ = some (.int .i64 k1) ∧ V.cell? ⟨b1, o1 + 1, none⟩ = some (.int .i64 v1) ∧ V.cell? ⟨b1, o1 + 2, none⟩ = some (.slice ads1 ds1.length cds1) ∧ V.cell? ⟨b1, o1 + 3, none⟩ = some (.slice (some ⟨bq, oq, none⟩) ks1.length cks1))) => hkeep V (V.alloc ob) ((Below.refl _ _).alloc h.1.size _) h)
        have KST4 := hid (fun (V : World) (b : Nat) (p q r u : Value) (hg : (V1.alloc (.cells #[.int .i64 k5, .int .i64 v5, .slice a5 n5 c5, .slice p5 m5 d5] 36)).heap.size ≤ b) (h : (Below (V1.alloc (.cells #[.int .i64 k5, .int .i64 v5, .slice a5 n5 c5, .slice p5 m5 d5] 36)).heap.size (V1.alloc (.cells #[.int .i64 k5, .int .i64 v5, .slice a5 n5 c5, .slice p5 m5 d5] 36)) V ∧ V.cell? ⟨b1, o1, none⟩ = some (.int .i64 k1) ∧ V.cell? ⟨b1, o1 + 1, none⟩ = some (.int .i64 v1) ∧ V.cell? ⟨b1, o1 + 2, none⟩ = some (.slice ads1 ds1.length cds1) ∧ V.cell? ⟨b1, o1 + 3, none⟩ = some (.slice (some ⟨bq, oq, none⟩) ks1.length cks1))) => hkeep V (set4W V b p q r u) (set4_below (Below.refl _ _) hg p q r u) h)
        have hSa : (Below (V1.alloc (.cells #[.int .i64 k5, .int .i64 v5, .slice a5 n5 c5, .slice p5 m5 d5] 36)).heap.size (V1.alloc (.cells #[.int .i64 k5, .int .i64 v5, .slice a5 n5 c5, .slice p5 m5 d5] 36)) (((V1.alloc (.cells #[.int .i64 k5, .int .i64 v5, .slice a5 n5 c5, .slice p5 m5 d5] 36)).alloc (.cells #[.int .i64 0, .int .i64 0, .slice none 0 0, .slice none 0 0] 36))).drew ∧ (((V1.alloc (.cells #[.int .i64 k5, .int .i64 v5, .slice a5 n5 c5, .slice p5 m5 d5] 36)).alloc (.cells #[.int .i64 0, .int .i64 0, .slice none 0 0, .slice none 0 0] 36))).drew.cell? ⟨b1, o1, none⟩ = some (.int .i64 k1) ∧ (((V1.alloc (.cells #[.int .i64 k5, .int .i64 v5, .slice a5 n5 c5, .slice p5 m5 d5] 36)).alloc (.cells #[.int .i64 0, .int .i64 0, .slice none 0 0, .slice none 0 0] 36))).drew.cell? ⟨b1, o1 + 1, none⟩ = some (.int .i64 v1) ∧ (((V1.alloc (.cells #[.int .i64 k5, .int .i64 v5, .slice a5 n5 c5, .slice p5 m5 d5] 36)).alloc (.cells #[.int .i64 0, .int .i64 0, .slice none 0 0, .slice none 0 0] 36))).drew.cell? ⟨b1, o1 + 2, none⟩ = some (.slice ads1 ds1.length cds1) ∧ (((V1.alloc (.cells #[.int .i64 k5, .int .i64 v5, .slice a5 n5 c5, .slice p5 m5 d5] 36)).alloc (.cells #[.int .i64 0, .int .i64 0, .slice none 0 0, .slice none 0 0] 36))).drew.cell? ⟨b1, o1 + 3, none⟩ = some (.slice (some ⟨bq, oq, none⟩) ks1.length cks1)) := KAL.out _ _ hS0
        have hSe : (Below (V1.alloc (.cells #[.int .i64 k5, .int .i64 v5, .slice a5 n5 c5, .slice p5 m5 d5] 36)).heap.size (V1.alloc (.cells #[.int .i64 k5, .int .i64 v5, .slice a5 n5 c5, .slice p5 m5 d5] 36)) (((V1.alloc (.cells #[.int .i64 k5, .int .i64 v5, .slice a5 n5 c5, .slice p5 m5 d5] 36)).alloc (.cells #[] 36))).drew ∧ (((V1.alloc (.cells #[.int .i64 k5, .int .i64 v5, .slice a5 n5 c5, .slice p5 m5 d5] 36)).alloc (.cells #[] 36))).drew.cell? ⟨b1, o1, none⟩ = some (.int .i64 k1) ∧ (((V1.alloc (.cells #[.int .i64 k5, .int .i64 v5, .slice a5 n5 c5, .slice p5 m5 d5] 36)).alloc (.cells #[] 36))).drew.cell? ⟨b1, o1 + 1, none⟩ = some (.int .i64 v1) ∧ (((V1.alloc (.cells #[.int .i64 k5, .int .i64 v5, .slice a5 n5 c5, .slice p5 m5 d5] 36)).alloc (.cells #[] 36))).drew.cell? ⟨b1, o1 + 2, none⟩ = some (.slice ads1 ds1.length cds1) ∧ (((V1.alloc (.cells #[.int .i64 k5, .int .i64 v5, .slice a5 n5 c5, .slice p5 m5 d5] 36)).alloc (.cells #[] 36))).drew.cell? ⟨b1, o1 + 3, none⟩ = some (.slice (some ⟨bq, oq, none⟩) ks1.length cks1)) := KAL.out _ _ hS0
        have hSa1 : (Below (V1.alloc (.cells #[.int .i64 k5, .int .i64 v5, .slice a5 n5 c5, .slice p5 m5 d5] 36)).heap.size (V1.alloc (.cells #[.int .i64 k5, .int .i64 v5, .slice a5 n5 c5, .slice p5 m5 d5] 36)) ((((V1.alloc (.cells #[.int .i64 k5, .int .i64 v5, .slice a5 n5 c5, .slice p5 m5 d5] 36)).alloc (.cells #[.int .i64 0, .int .i64 0, .slice none 0 0, .slice none 0 0] 36)).alloc (.cells #[] 36))).drew ∧ ((((V1.alloc (.cells #[.int .i64 k5, .int .i64 v5, .slice a5 n5 c5, .slice p5 m5 d5] 36)).alloc (.cells #[.int .i64 0, .int .i64 0, .slice none 0 0, .slice none 0 0] 36)).alloc (.cells #[] 36))).drew.cell? ⟨b1, o1, none⟩ = some (.int .i64 k1) ∧ ((((V1.alloc (.cells #[.int .i64 k5, .int .i64 v5, .slice a5 n5 c5, .slice p5 m5 d5] 36)).alloc (.cells #[.int .i64 0, .int .i64 0, .slice none 0 0, .slice none 0 0] 36)).alloc (.cells #[] 36))).drew.cell? ⟨b1, o1 + 1, none⟩ = some (.int .i64 v1) ∧ ((((V1.alloc (.cells #[.int .i64 k5, .int .i64 v5, .slice a5 n5 c5, .slice p5 m5 d5] 36)).alloc (.cells #[.int .i64 0, .int .i64 0, .slice none 0 0, .slice none 0 0] 36)).alloc (.cells #[] 36))).drew.cell? ⟨b1, o1 + 2, none⟩ = some (.slice ads1 ds1.length cds1) ∧ ((((V1.alloc (.cells #[.int .i64 k5, .int .i64 v5, .slice a5 n5 c5, .slice p5 m5 d5] 36)).alloc (.cells #[.int .i64 0, .int .i64 0, .slice none 0 0, .slice none 0 0] 36)).alloc (.cells #[] 36))).drew.cell? ⟨b1, o1 + 3, none⟩ = some (.slice (some ⟨bq, oq, none⟩) ks1.length cks1)) := KAL.out _ _ hSa
        have hSe1 : (Below (V1.alloc (.cells #[.int .i64 k5, .int .i64 v5, .slice a5 n5 c5, .slice p5 m5 d5] 36)).heap.size (V1.alloc (.cells #[.int .i64 k5, .int .i64 v5, .slice a5 n5 c5, .slice p5 m5 d5] 36)) ((((V1.alloc (.cells #[.int .i64 k5, .int .i64 v5, .slice a5 n5 c5, .slice p5 m5 d5] 36)).alloc (.cells #[] 36)).alloc (.cells #[.int .i64 0, .int .i64 0, .slice none 0 0, .slice none 0 0] 36))).drew ∧ ((((V1.alloc (.cells #[.int .i64 k5, .int .i64 v5, .slice a5 n5 c5, .slice p5 m5 d5] 36)).alloc (.cells #[] 36)).alloc (.cells #[.int .i64 0, .int .i64 0, .slice none 0 0, .slice none 0 0] 36))).drew.cell? ⟨b1, o1, none⟩ = some (.int .i64 k1) ∧ ((((V1.alloc (.cells #[.int .i64 k5, .int .i64 v5, .slice a5 n5 c5, .slice p5 m5 d5] 36)).alloc (.cells #[] 36)).alloc (.cells #[.int .i64 0, .int .i64 0, .slice none 0 0, .slice none 0 0] 36))).drew.cell? ⟨b1, o1 + 1, none⟩ = some (.int .i64 v1) ∧ ((((V1.alloc (.cells #[.int .i64 k5, .int .i64 v5, .slice a5 n5 c5, .slice p5 m5 d5] 36)).alloc (.cells #[] 36)).alloc (.cells #[.int .i64 0, .int .i64 0, .slice none 0 0, .slice none 0 0] 36))).drew.cell? ⟨b1, o1 + 2, none⟩ = some (.slice ads1 ds1.length cds1) ∧ ((((V1.alloc (.cells #[.int .i64 k5, .int .i64 v5, .slice a5 n5 c5, .slice p5 m5 d5] 36)).alloc (.cells #[] 36)).alloc (.cells #[.int .i64 0, .int .i64 0, .slice none 0 0, .slice none 0 0] 36))).drew.cell? ⟨b1, o1 + 3, none⟩ = some (.slice (some ⟨bq, oq, none⟩) ks1.length cks1)) := KAL.out _ _ hSe
        have own1 : ((((V1.alloc (.cells #[.int .i64 k5, .int .i64 v5, .slice a5 n5 c5, .slice p5 m5 d5] 36)).alloc (.cells #[.int .i64 0, .int .i64 0, .slice none 0 0, .slice none 0 0] 36)).alloc (.cells #[] 36))).drew.ownsRow (V1.alloc (.cells #[.int .i64 k5, .int .i64 v5, .slice a5 n5 c5, .slice p5 m5 d5] 36)).heap.size 36 4 (.slice (some ⟨V1.heap.size + 1 + 1, 0, none⟩) 0 0) 0 [] := by
          have h := made_row ((V1.alloc (.cells #[.int .i64 k5, .int .i64 v5, .slice a5 n5 c5, .slice p5 m5 d5] 36)).alloc (.cells #[.int .i64 0, .int .i64 0, .slice none 0 0, .slice none 0 0] 36)) (V1.alloc (.cells #[.int .i64 k5, .int .i64 v5, .slice a5 n5 c5, .slice p5 m5 d5] 36)).heap.size (by simp) 36
          simp only [World.size_alloc] at h ⊢
          exact h
        have own2 : (((V1.alloc (.cells #[.int .i64 k5, .int .i64 v5, .slice a5 n5 c5, .slice p5 m5 d5] 36)).alloc (.cells #[] 36))).drew.ownsRow (V1.alloc (.cells #[.int .i64 k5, .int .i64 v5, .slice a5 n5 c5, .slice p5 m5 d5] 36)).heap.size 36 4 (.slice (some ⟨V1.heap.size + 1, 0, none⟩) 0 0) 0 [] := by
          have h := made_row (V1.alloc (.cells #[.int .i64 k5, .int .i64 v5, .slice a5 n5 c5, .slice p5 m5 d5] 36)) (V1.alloc (.cells #[.int .i64 k5, .int .i64 v5, .slice a5 n5 c5, .slice p5 m5 d5] 36)).heap.size (Nat.le_refl _) 36
          simp only [World.size_alloc] at h ⊢
          exact h
        have own3 : ((((V1.alloc (.cells #[.int .i64 k5, .int .i64 v5, .slice a5 n5 c5, .slice p5 m5 d5] 36)).alloc (.cells #[] 36)).alloc (.cells #[.int .i64 0, .int .i64 0, .slice none 0 0, .slice none 0 0] 36))).drew.ownsRow (V1.alloc (.cells #[.int .i64 k5, .int .i64 v5, .slice a5 n5 c5, .slice p5 m5 d5] 36)).heap.size 36 4 (.slice (some ⟨V1.heap.size + 1, 0, none⟩) 0 0) 0 [] := by
          have h := ownsRow.below (made_row (V1.alloc (.cells #[.int .i64 k5, .int .i64 v5, .slice a5 n5 c5, .slice p5 m5 d5] 36)) (V1.alloc (.cells #[.int .i64 k5, .int .i64 v5, .slice a5 n5 c5, .slice p5 m5 d5] 36)).heap.size (Nat.le_refl _) 36) (((Below.refl _ _).alloc (Nat.le_refl _) (.cells #[.int .i64 0, .int .i64 0, .slice none 0 0, .slice none 0 0] 36)))
          simp only [World.size_alloc] at h ⊢
          exact h
        have hx1 : ((((V1.alloc (.cells #[.int .i64 k5, .int .i64 v5, .slice a5 n5 c5, .slice p5 m5 d5] 36)).alloc (.cells #[.int .i64 0, .int .i64 0, .slice none 0 0, .slice none 0 0] 36)).alloc (.cells #[] 36))).drew.heap[V1.heap.size + 1]? = some (.cells #[.int .i64 0, .int .i64 0, .slice none 0 0, .slice none 0 0] 36) := by
          show ((((V1.alloc (.cells #[.int .i64 k5, .int .i64 v5, .slice a5 n5 c5, .slice p5 m5 d5] 36)).alloc (.cells #[.int .i64 0, .int .i64 0, .slice none 0 0, .slice none 0 0] 36)).alloc (.cells #[] 36))).heap[V1.heap.size + 1]? = _
          rw [Below.heap_alloc _ _ _ (by simp)]
          have h := heap_alloc_new (V1.alloc (.cells #[.int .i64 k5, .int .i64 v5, .slice a5 n5 c5, .slice p5 m5 d5] 36)) (.cells #[.int .i64 0, .int .i64 0, .slice none 0 0, .slice none 0 0] 36)
          simp only [World.size_alloc] at h ⊢
          exact h
        have hx3 : ((((V1.alloc (.cells #[.int .i64 k5, .int .i64 v5, .slice a5 n5 c5, .slice p5 m5 d5] 36)).alloc (.cells #[] 36)).alloc (.cells #[.int .i64 0, .int .i64 0, .slice none 0 0, .slice none 0 0] 36))).drew.heap[V1.heap.size + 1 + 1]? = some (.cells #[.int .i64 0, .int .i64 0, .slice none 0 0, .slice none 0 0] 36) := by
          have h := heap_alloc_new ((V1.alloc (.cells #[.int .i64 k5, .int .i64 v5, .slice a5 n5 c5, .slice p5 m5 d5] 36)).alloc (.cells #[] 36)) (.cells #[.int .i64 0, .int .i64 0, .slice none 0 0, .slice none 0 0] 36)
          simp only [World.size_alloc] at h ⊢
          exact h
        have hnw : ∀ V : World, Below (V1.alloc (.cells #[.int .i64 k5, .int .i64 v5, .slice a5 n5 c5, .slice p5 m5 d5] 36)).heap.size (V1.alloc (.cells #[.int .i64 k5, .int .i64 v5, .slice a5 n5 c5, .slice p5 m5 d5] 36)) V → ∀ (j : Nat) (u : Value), news[j]? = some u → V.cell? ((⟨bq, oq, none⟩ : Addr).add j) = some u := fun V hV j u h => by
          rw [Addr.add_lit]
          exact ((HBW.out.trans (hV.mono HBW.out.size)).cell (p := ⟨bq, oq + j, none⟩) hlq).trans (hnews j u h)
        have HNW1 := hid (hnw _ hSa1.1)
        have HNW2 := hid (hnw _ hSe.1)
        have HNW3 := hid (hnw _ hSe1.1)
        clear hkeep hnw
        go_upto_region 10 with fail
        go_cut [14] from 52 to 70 (fun t7 wx => ∃ (g gq cap : Nat) (cur : Array Value), t7 = .pointer (some ⟨g, 0, none⟩) ∧ Hid ((V1.alloc (.cells #[.int .i64 k5, .int .i64 v5, .slice a5 n5 c5, .slice p5 m5 d5] 36)).heap.size ≤ g) ∧ Hid ((V1.alloc (.cells #[.int .i64 k5, .int .i64 v5, .slice a5 n5 c5, .slice p5 m5 d5] 36)).heap.size ≤ gq) ∧ Hid (g ≠ gq) ∧ Hid (Below (V1.alloc (.cells #[.int .i64 k5, .int .i64 v5, .slice a5 n5 c5, .slice p5 m5 d5] 36)).heap.size (V1.alloc (.cells #[.int .i64 k5, .int .i64 v5, .slice a5 n5 c5, .slice p5 m5 d5] 36)) wx) ∧ Hid (wx.heap[g]? = some (.cells #[.int .i64 k1, .int .i64 v1, .slice ads1 ds1.length cds1, .slice (some ⟨gq, 0, none⟩) ks1.length cap] 36)) ∧ Hid (wx.heap[gq]? = some (.cells cur 36)) ∧ Hid (ks1.length * 4 ≤ cur.size))
        case first =>
          go_region_held3 (fun V => (Below (V1.alloc (.cells #[.int .i64 k5, .int .i64 v5, .slice a5 n5 c5, .slice p5 m5 d5] 36)).heap.size (V1.alloc (.cells #[.int .i64 k5, .int .i64 v5, .slice a5 n5 c5, .slice p5 m5 d5] 36)) V ∧ V.cell? ⟨b1, o1, none⟩ = some (.int .i64 k1) ∧ V.cell? ⟨b1, o1 + 1, none⟩ = some (.int .i64 v1) ∧ V.cell? ⟨b1, o1 + 2, none⟩ = some (.slice ads1 ds1.length cds1) ∧ V.cell? ⟨b1, o1 + 3, none⟩ = some (.slice (some ⟨bq, oq, none⟩) ks1.length cks1)))
            (with_reducible first | exact hS0 | exact hSa | exact hSe | exact hSa1 | exact hSe1 | exact hS3 | exact KAL.out _ _ hS3 | exact KST4.out _ _ _ _ _ _ (by simp) hS3)
            (first
              | (refine step_append_lies _ (by rfl) _ _ _ (by rfl) (V1.alloc (.cells #[.int .i64 k5, .int .i64 v5, .slice a5 n5 c5, .slice p5 m5 d5] 36)).heap.size 36 i0 _ 4 64 Try.underlying31 HI.out hz0' hz1 hz2 rfl (by omega) (.slice (some ⟨V1.heap.size + 1 + 1, 0, none⟩) 0 0) 0 [] (by rfl) own1 ⟨bq, oq, none⟩ ks1.length cks1 news (by rfl) hnl HNW1.out hone hpos h63 hby hSa1.1.size ((((V1.alloc (.cells #[.int .i64 k5, .int .i64 v5, .slice a5 n5 c5, .slice p5 m5 d5] 36)).alloc (.cells #[.int .i64 0, .int .i64 0, .slice none 0 0, .slice none 0 0] 36)).alloc (.cells #[] 36))).drew.heap.size rfl ?_; intro gq cap W3 ho3 hg3 hat3 hlt3; rw [Nat.zero_add, List.nil_append] at ho3; rw [Nat.zero_add]; have hord := true; have hxx := (hg3.block _ (Array.getElem?_eq_some_iff.1 hx1).1 (by simp [Value.ownBlock])).trans hx1; have z0 := heap_free hxx 0; have z1 := heap_free hxx 1; have z2 := heap_free hxx 2; have z3 := heap_free hxx 3; have r0 := heap_cell hxx (j := 0) rfl; have r1 := heap_cell hxx (j := 1) rfl; have r2 := heap_cell hxx (j := 2) rfl; have r3 := heap_cell hxx (j := 3) rfl; have hS3 := KEEP.out _ _ ((Below.refl _ _).grown hg3 hSa1.1.size (fun k hk => by simp [Value.ownBlock] at hk; simp; omega)) hSa1; have HP1 := hid (fun p q r u => app_before (p := p) (q := q) (r := r) (u := u) (g := V1.heap.size + 1) (EB := V1.heap.size + 1 + 1) hpos hSa1.1 (by simp) hx1 (by simp; try omega) (by omega) hg3 ho3 (by simpa [Value.ownBlock] using hat3)))
              | (refine step_append_lies _ (by rfl) _ _ _ (by rfl) (V1.alloc (.cells #[.int .i64 k5, .int .i64 v5, .slice a5 n5 c5, .slice p5 m5 d5] 36)).heap.size 36 i0 _ 4 64 Try.underlying31 HI.out hz0' hz1 hz2 rfl (by omega) (.slice (some ⟨V1.heap.size + 1, 0, none⟩) 0 0) 0 [] (by rfl) own3 ⟨bq, oq, none⟩ ks1.length cks1 news (by rfl) hnl HNW3.out hone hpos h63 hby hSe1.1.size ((((V1.alloc (.cells #[.int .i64 k5, .int .i64 v5, .slice a5 n5 c5, .slice p5 m5 d5] 36)).alloc (.cells #[] 36)).alloc (.cells #[.int .i64 0, .int .i64 0, .slice none 0 0, .slice none 0 0] 36))).drew.heap.size rfl ?_; intro gq cap W3 ho3 hg3 hat3 hlt3; rw [Nat.zero_add, List.nil_append] at ho3; rw [Nat.zero_add]; have hxx := (hg3.block _ (Array.getElem?_eq_some_iff.1 hx3).1 (by simp [Value.ownBlock])).trans hx3; have z0 := heap_free hxx 0; have z1 := heap_free hxx 1; have z2 := heap_free hxx 2; have z3 := heap_free hxx 3; have r0 := heap_cell hxx (j := 0) rfl; have r1 := heap_cell hxx (j := 1) rfl; have r2 := heap_cell hxx (j := 2) rfl; have r3 := heap_cell hxx (j := 3) rfl; have hS3 := KEEP.out _ _ ((Below.refl _ _).grown hg3 hSe1.1.size (fun k hk => by simp [Value.ownBlock] at hk; simp; omega)) hSe1; have HP1 := hid (fun p q r u => app_before (p := p) (q := q) (r := r) (u := u) (g := V1.heap.size + 1 + 1) (EB := V1.heap.size + 1) hpos hSe1.1 (by simp; try omega) hx3 (by simp) (by omega) hg3 ho3 (by simpa [Value.ownBlock] using hat3)))
              | (refine step_append_lies _ (by rfl) _ _ _ (by rfl) (V1.alloc (.cells #[.int .i64 k5, .int .i64 v5, .slice a5 n5 c5, .slice p5 m5 d5] 36)).heap.size 36 i0 _ 4 64 Try.underlying31 HI.out hz0' hz1 hz2 rfl (by omega) (.slice (some ⟨V1.heap.size + 1, 0, none⟩) 0 0) 0 [] (by rfl) own2 ⟨bq, oq, none⟩ ks1.length cks1 news (by rfl) hnl HNW2.out hone hpos h63 hby hSe.1.size (((V1.alloc (.cells #[.int .i64 k5, .int .i64 v5, .slice a5 n5 c5, .slice p5 m5 d5] 36)).alloc (.cells #[] 36))).drew.heap.size rfl ?_; intro gq cap W3 ho3 hg3 hat3 hlt3; rw [Nat.zero_add, List.nil_append] at ho3; rw [Nat.zero_add]; have hS3 := KEEP.out _ _ ((Below.refl _ _).grown hg3 hSe.1.size (fun k hk => by simp [Value.ownBlock] at hk; simp; omega)) hSe; have HP2 := hid (fun C => app_after (C := C) hpos hSe.1 (EB := V1.heap.size + 1) (by simp) hg3 ho3)))
          all_goals
            clear KEEP KAL KST4 HNW1 HNW2 HNW3 own1 own2 own3
            go_wp2_with fail
            go_meet
            first
              | (have hq := HP2
                 obtain ⟨q1, q2, q3, q4, q5, cur, q6, q7⟩ := hq.out _
                 exact ⟨_, _, _, cur, rfl, q1, q2, q3, q4, q5, q6, q7⟩)
              | (have hq := HP1
                 obtain ⟨q1, q2, q3, q4, q5, cur, q6, q7⟩ := hq.out _ _ _ _
                 exact ⟨_, _, _, cur, rfl, q1, q2, q3, q4, q5, q6, q7⟩)
        case rest =>
        obtain ⟨wd, hwd⟩ : ∃ wd, wd = wc := ⟨_, rfl⟩
        subst hwd
        obtain ⟨g, gq, cap, cur, rfl, HG, HGQ, HGN, HBA, HX, HXQ, HCS⟩ := hcut
        clear KEEP KAL KST4 HNW1 HNW2 HNW3 own1 own2 own3 hS0 hSa hSe hSa1 hSe1 hx1 hx3 hnews hone hnl
        have hgw : V1.heap.size + 1 ≤ g := by have := HG.out; simp only [World.size_alloc] at this; exact this
        have hgqw : V1.heap.size + 1 ≤ gq := by have := HGQ.out; simp only [World.size_alloc] at this; exact this
        have HB5 := hid (HBW.out.trans (HBA.out.mono HBW.out.size))
        have HN5 := hid ((HBA.out.block w.heap.size (by have := HV1.out; simp; omega)).trans HNW.out)
        have HK5 := hid ((HBA.out.block V1.heap.size (by simp)).trans HK1.out)
        have hgg : g ≠ gq := HGN.out
        have u0 := heap_cell HK5.out (j := 0) rfl
        have u1 := heap_cell HK5.out (j := 1) rfl
        have u2 := heap_cell HK5.out (j := 2) rfl
        have u3 := heap_cell HK5.out (j := 3) rfl
        have e3 := heap_cell HX.out (j := 3) rfl
        obtain ⟨s0, w0⟩ := put_kid HXQ.out HCS.out hlt 0 (by omega)
        obtain ⟨s1, w1⟩ := put_kid HXQ.out HCS.out hlt 1 (by omega)
        obtain ⟨s2, w2'⟩ := put_kid HXQ.out HCS.out hlt 2 (by omega)
        obtain ⟨s3, w3⟩ := put_kid HXQ.out HCS.out hlt 3 (by omega)
        simp only [Nat.add_zero] at w0
        have n0 := heap_free HXQ.out (j * 4)
        have n1 := heap_free HXQ.out (j * 4 + 1)
        have n2 := heap_free HXQ.out (j * 4 + 2)
        have n3 := heap_free HXQ.out (j * 4 + 3)
        have ij0 : (0 : Int) ≤ (j : Int) := by omega
        have ij : (j : Int) < (ks1.length : Int) := by omega
        have HKS := hid (fun (i0 i1 i2 i3 : Nat) (p q r u : Value) (x : Nat) (hx : x ≠ gq) => (((heap_set_ne0 (w := ((wd.setCell ⟨gq, i0, none⟩ p).setCell ⟨gq, i1, none⟩ q).setCell ⟨gq, i2, none⟩ r) (b := gq) (q := i3) u hx).trans ((heap_set_ne0 r hx).trans ((heap_set_ne0 q hx).trans (heap_set_ne0 p hx)))) : ((((wd.setCell ⟨gq, i0, none⟩ p).setCell ⟨gq, i1, none⟩ q).setCell ⟨gq, i2, none⟩ r).setCell ⟨gq, i3, none⟩ u).heap[x]? = wd.heap[x]?))
        go_upto_region 11 with fail
        go_cut [] from 71 to 75 (fun wx => Hid (Below w.heap.size w wx) ∧ Hid (wx.heap[g]? = some (.cells #[.int .i64 k1, .int .i64 v1, .slice ads1 ds1.length cds1, .slice (some ⟨gq, 0, none⟩) ks1.length cap] 36)) ∧ Hid (wx.heap[w.heap.size]? = some (.cells #[.int .i64 0, .int .i64 0, .slice none 0 0, .slice none 0 0] 36)))
        case first =>
          have hwq : w.heap.size ≤ gq := by have := HV1.out; omega
          have hwn : w.heap.size ≠ gq := by have := HV1.out; omega
          clear y0 y1 y2 y3
          go_wp2_with fail
          go_meet
          exact ⟨hid ((((HB5.out.setCell (p := ⟨gq, _, none⟩) hwq _).setCell (p := ⟨gq, _, none⟩) hwq _).setCell (p := ⟨gq, _, none⟩) hwq _).setCell (p := ⟨gq, _, none⟩) hwq _), hid ((HKS.out _ _ _ _ _ _ _ _ g hgg).trans HX.out), hid ((HKS.out _ _ _ _ _ _ _ _ w.heap.size hwn).trans HN5.out)⟩
        case rest =>
        obtain ⟨HB6, HX6, HN6⟩ := hcut
        clear u0 u1 u2 u3 e3 n0 n1 n2 n3 w0 w1 w2' w3 HX HN5 HKS HXQ y0 y1 y2 y3
        have f0 := heap_cell HX6.out (j := 0) rfl
        have f1 := heap_cell HX6.out (j := 1) rfl
        have f2 := heap_cell HX6.out (j := 2) rfl
        have f3 := heap_cell HX6.out (j := 3) rfl
        have z0 := heap_free HN6.out 0
        have r0 := heap_cell HN6.out (j := 0) rfl
        have z1 := heap_free HN6.out 1
        have r1 := heap_cell HN6.out (j := 1) rfl
        have z2 := heap_free HN6.out 2
        have r2 := heap_cell HN6.out (j := 2) rfl
        have z3 := heap_free HN6.out 3
        have r3 := heap_cell HN6.out (j := 3) rfl
        go_wp2_with fail
        have hS := set4 HN6.out (.int .i64 k1) (.int .i64 v1) (.slice ads1 ds1.length cds1) (.slice (some ⟨gq, 0, none⟩) ks1.length cap)
        have hc0 := heap_cell hS (j := 0) rfl
        have hc1 := heap_cell hS (j := 1) rfl
        have hc2 := heap_cell hS (j := 2) rfl
        have hc3 := heap_cell hS (j := 3) rfl
        refine bodyPost_ret (v := .tuple #[.agg #[.int .i64 k1, .int .i64 v1, .slice ads1 ds1.length cds1, .slice (some ⟨gq, 0, none⟩) ks1.length cap], .int .i64 z5, .int .i64 q5]) (by simp [results, Try.results23, go_sem, hc0, hc1, hc2, hc3]) rfl ?_
        exact ⟨_, _, _, _, _, _, _, _, _, _, rfl, HRES.out, set4_below HB6.out (Nat.le_refl _) _ _ _ _⟩
theorem inner_all (fs : List Co) (afs : Option Addr) (cfs : Nat) : ∀ N, InnW fs afs cfs N
  | 0 => fun _ _ _ _ _ _ h => absurd h (by omega)
  | N + 1 => fun t b0 o0 b1 o1 w hN hM hg hrf yb hrb hat => by
    obtain ⟨k1, v1, ds1, ks1⟩ := t
    by_cases hz : redx k1 ds1.length ks1 = 0
    · exact inner_kids fs afs cfs N (inner_all fs afs cfs N) k1 v1 ds1 ks1 b0 o0 b1 o1 w hN hz hg hrf hM yb hrb hat
    · exact inner_redex fs afs cfs k1 v1 ds1 ks1 b0 o0 b1 o1 w hz hg hrf hM yb hrb hat
end Go.Proofs.Ytejdbmeoaekhcaa
