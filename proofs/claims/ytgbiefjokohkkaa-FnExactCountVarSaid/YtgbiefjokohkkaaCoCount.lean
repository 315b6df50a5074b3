/- Cores: occurrences of a free variable: plain facts, and the walk of the reference. -/
import Derived.Test.YtgbiefjokohkkaaCoClosed
namespace Go.Proofs.Ytgbiefjokohkkaa
open Go.ChangeShapes Go.WideShapes Go.ChangeAt Go.RowKit Go.BigFrame
open Go.Sort (grow)
set_option linter.unusedVariables false

mutual
/-- How often the variable d occurs. -/
def Co.cou : Co → Int → Int
  | .mk k v _ ks, d => if k = 1 then (if v = d then 1 else 0) else Co.cous k 0 ks d
def Co.cous : Int → Nat → List Co → Int → Int
  | _, _, [], _ => 0
  | k, i, t :: ts, d => Co.cou t (wrap64 (d + bindsOf k i)) + Co.cous k (i + 1) ts d
end
mutual
theorem Co.cou_bd : ∀ (t : Co) (d : Int), 0 ≤ Co.cou t d ∧ Co.cou t d ≤ 1 + Co.bulk t
  | .mk k v ds ks, d => by
    have := Co.cous_bd k 0 ks d
    simp only [Co.cou, Co.bulk]
    split
    · split <;> omega
    · omega
theorem Co.cous_bd : ∀ (k : Int) (i : Nat) (ts : List Co) (d : Int), 0 ≤ Co.cous k i ts d ∧ Co.cous k i ts d ≤ Co.bulks ts
  | k, i, [], d => by simp [Co.cous]
  | k, i, t :: ts, d => by
    have h1 := Co.cou_bd t (wrap64 (d + bindsOf k i))
    have h2 := Co.cous_bd k (i + 1) ts d
    simp only [Co.cous, Co.bulks]; omega
end
theorem Co.cous_take : ∀ (k : Int) (i : Nat) (ts : List Co) (d : Int) (j : Nat) (t : Co), ts[j]? = some t →
    Co.cous k i (ts.take (j + 1)) d = Co.cous k i (ts.take j) d + Co.cou t (wrap64 (d + bindsOf k (i + j : Nat)))
  | k, i, [], d, j, t, h => by simp at h
  | k, i, u :: ts, d, 0, t, h => by simp at h; subst h; simp [Co.cous]
  | k, i, u :: ts, d, j + 1, t, h => by
    have e := Co.cous_take k (i + 1) ts d j t (by simpa using h)
    rw [List.take_succ_cons, List.take_succ_cons, Co.cous, Co.cous, e, Int.add_assoc, show i + 1 + j = i + (j + 1) by omega]
theorem Co.cous_le : ∀ (k : Int) (i : Nat) (ts : List Co) (d : Int) (j : Nat), Co.cous k i (ts.take j) d ≤ Co.bulks ts
  | k, i, [], d, j => by simp [Co.cous]
  | k, i, u :: ts, d, 0 => by simp [Co.cous]
  | k, i, u :: ts, d, j + 1 => by
    have h1 := Co.cou_bd u (wrap64 (d + bindsOf k i))
    have h2 := Co.cous_le k (i + 1) ts d j
    rw [List.take_succ_cons, Co.cous, Co.bulks]; omega

def CouW (N : Nat) : Prop := ∀ (k1 : Int) (v1 : Int) (ds1 : List Int) (ks1 : List Co) (ads1 : Option Addr) (cds1 : Nat) (aks1 : Option Addr) (cks1 : Nat) (b1 o1 : Nat) (d : Int) (w : World), Co.bulk (Co.mk k1 v1 ds1 ks1) < N → Co.bulk (Co.mk k1 v1 ds1 ks1) ≤ 1048576 → w.cell? ⟨b1, o1, none⟩ = some (.int .i64 k1) → w.cell? ⟨b1, o1 + 1, none⟩ = some (.int .i64 v1) → w.cell? ⟨b1, o1 + 2, none⟩ = some (.slice ads1 ds1.length cds1) → w.cell? ⟨b1, o1 + 3, none⟩ = some (.slice aks1 ks1.length cks1) → RdS w (Co.d (Co.mk k1 v1 ds1 ks1)) [.int .i64 k1, .int .i64 v1, .slice ads1 ds1.length cds1, .slice aks1 ks1.length cks1] →
  Calls Try.prog 65 #[.pointer (some ⟨b1, o1, none⟩), .int .i64 d] w fun e w' => e = .returned (.int .i64 (Co.cou (Co.mk k1 v1 ds1 ks1) d)) ∧ Below w.heap.size w w'
set_option maxHeartbeats 1000000 in
theorem cou_step (N : Nat) (ih : CouW N) : CouW (N + 1) := by
  intro k1 v1 ds1 ks1 ads1 cds1 aks1 cks1 b1 o1 d w hN hM x0 x1 x2 x3 hr
  have hbk : Co.bulk (Co.mk k1 v1 ds1 ks1) = In.bulks ds1 + Co.bulks ks1 := rfl
  have HE := hid (show Co.cou (Co.mk k1 v1 ds1 ks1) d = if k1 = 1 then (if v1 = d then 1 else 0) else Co.cous k1 0 ks1 d from rfl)
  by_cases h1 : k1 = 1
  case pos =>
    subst h1
    by_cases hv : v1 = d
    case pos =>
      subst hv
      have HF := hid (show Co.cou (Co.mk 1 v1 ds1 ks1) v1 = 1 by rw [HE.out]; simp)
      clear x2 x3 hr ih hM hN hbk HE
      go_enter Try.func65, Try.ntmps65
      go_wp2_with fail
      go_ret
      exact ⟨ret_int (by rw [HF.out]), Below.refl _ _⟩
    case neg =>
      have hvb : (v1 == d) = false := by simp [hv]
      have HF := hid (show Co.cou (Co.mk 1 v1 ds1 ks1) d = 0 by rw [HE.out]; simp [hv])
      clear hv x2 x3 hr ih hM hN hbk HE
      go_enter Try.func65, Try.ntmps65
      go_wp2_with fail
      go_ret
      exact ⟨ret_int (by rw [HF.out]), Below.refl _ _⟩
  case neg =>
    have g1 : (k1 == 1) = false := by simp [h1]
    have HF := hid (show Co.cou (Co.mk k1 v1 ds1 ks1) d = Co.cous k1 0 ks1 d by rw [HE.out]; simp [h1])
    obtain ⟨_, _, e, h2, h3, h4⟩ := hr.fCo.2.2.2.eCo
    simp only [Value.slice.injEq, true_and] at e
    obtain ⟨rfl, rfl⟩ := e
    have IH := hid ih
    have H4 := hid h4
    have HK := hid hbk
    have HN := hid hN
    have HM := hid hM
    have X0 := hid x0
    have X3 := hid x3
    have XL := hid (World.block_lt_of_cell? _ _ x3)
    have hcl := Co.bulks_length ks1
    have hlen : ks1.length ≤ 1048576 := by omega
    clear ih hr h4 hbk hN hM x1 x2 h1 hcl HE
    go_enter Try.func65, Try.ntmps65
    go_wp2_with fail
    go_loopw [5, 6] (fun n i wr => ∃ (j : Nat), j ≤ ks1.length ∧ i = .int .i64 j ∧ n = .int .i64 (Co.cous k1 0 (ks1.take j) d) ∧ Below w.heap.size w wr) (fun _ i _ => ks1.length - (intOf i).toNat)
    case atStart => exact ⟨0, by omega, rfl, by simp [Co.cous], Below.refl _ _⟩
    case round =>
      obtain ⟨j, hj, rfl, rfl, hb⟩ := hrel
      have z3 := (hb.cell (p := ⟨b1, o1 + 3, none⟩) XL.out).trans X3.out
      have z0 := (hb.cell (p := ⟨b1, o1, none⟩) XL.out).trans X0.out
      by_cases hlt : j < ks1.length
      case pos =>
        obtain ⟨b, o, rfl, hbl, hall⟩ := H4.out (by omega)
        obtain ⟨t, ht⟩ : ∃ t, ks1[j]? = some t := ⟨_, List.getElem?_eq_getElem hlt⟩
        obtain ⟨k3, v3, ds3, ks3⟩ := t
        obtain ⟨ads3, cds3, aks3, cks3, q0, q1, q2, q3, hrk⟩ := hall j k3 v3 ds3 ks3 ht
        clear hall H4
        have hbg := Co.bulk_get ks1 j _ ht
        have HT := hid (Co.cous_take k1 0 ks1 d j _ ht)
        have n0 := (Co.cous_bd k1 0 (ks1.take j) d).1
        have n1 := Co.cous_le k1 0 ks1 d j
        have hcb := fun d' os => Calls.regrown_of ((spec_binds k1 b1 o1 j (grow (redrawn wr d') os) (cell_regrown z0 d' os)).mono fun _ _ ⟨h, e⟩ => ⟨h, e ▸ Below.refl _ _⟩)
        have hc := fun d' os => Calls.regrown_of (IH.out k3 v3 ds3 ks3 ads3 cds3 aks3 cks3 b (o + j * 4) (wrap64 (d + bindsOf k1 j)) (grow (redrawn wr d') os) (by have := HK.out; have := HN.out; omega) (by have := HK.out; have := HM.out; omega)
          (cell_regrown ((hb.cell (p := ⟨b, o + j * 4, none⟩) hbl).trans q0) d' os) (cell_regrown ((hb.cell (p := ⟨b, o + j * 4 + 1, none⟩) hbl).trans q1) d' os) (cell_regrown ((hb.cell (p := ⟨b, o + j * 4 + 2, none⟩) hbl).trans q2) d' os) (cell_regrown ((hb.cell (p := ⟨b, o + j * 4 + 3, none⟩) hbl).trans q3) d' os) ((hrk.below hb).below (below_regrown wr d' os)))
        have c0 := Co.cou_bd (.mk k3 v3 ds3 ks3) (wrap64 (d + bindsOf k1 j))
        have hsum : Co.cous k1 0 (ks1.take j) d + Co.cou (.mk k3 v3 ds3 ks3) (wrap64 (d + bindsOf k1 j)) ≤ 4194304 := by have := HK.out; have := HM.out; omega
        have z3' := cell_regrown z3
        clear ht hrk q0 q1 q2 q3 z0
        rw [Nat.zero_add] at HT
        generalize hbq : bindsOf k1 j = bb at hc hcb hsum c0 HT
        generalize hcq : Co.cou (.mk k3 v3 ds3 ks3) (wrap64 (d + bb)) = cc at hc hsum c0 HT
        generalize hnq : Co.cous k1 0 (ks1.take j) d = nn at hsum n0 n1 HT ⊢
        obtain ⟨c1, c2⟩ := c0
        have hcc : cc ≤ 4194304 := by omega
        have hnn : nn ≤ 4194304 := by omega
        have HS := hid (IntWalk.wrap64_in (nn + cc) (by omega))
        clear c2 n1
        have HC := hid hc
        have HCB := hid hcb
        clear hbq hc hcb hcq hnq
        go_wp2_with fail
        refine wp_region_quiet_below (by kernel_rfl) (by kernel_rfl) ?_
        repeat (go_big_quiet_step (first | exact HCB.out _ _ | exact HC.out _ _))
        refine wpQuiet_nil ?_
        intro _ hw'
        obtain ⟨⟨dq, osq⟩, hw''⟩ := hw'
        subst hw''
        have hbw := hb.trans ((below_regrown wr dq osq).mono hb.size)
        clear HC HCB z3 z3'
        go_wp2_with fail
        go_roundw
        case rel => exact ⟨j + 1, by omega, by go_num, by rw [HT.out], hbw⟩
        case measure => simp [intOf]; omega
      case neg =>
        go_wp2_with fail
        go_ret
        exact ⟨ret_int (by rw [HF.out, List.take_of_length_le (by omega)]), hb⟩
theorem cou_all : ∀ N, CouW N
  | 0 => fun _ _ _ _ _ _ _ _ _ _ _ _  h => absurd h (by omega)
  | N + 1 => cou_step N (cou_all N)
end Go.Proofs.Ytgbiefjokohkkaa
