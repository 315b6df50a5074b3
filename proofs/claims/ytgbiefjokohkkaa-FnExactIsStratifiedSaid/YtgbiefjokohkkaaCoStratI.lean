/- Walks: whether levels are kept, in the program. -/
import Derived.Test.YtgbiefjokohkkaaCoCompact
import Derived.Test.YtgbiefjokohkkaaAnyCo
import Derived.Test.YtgbiefjokohkkaaHeadQuiet
namespace Go.Proofs.Ytgbiefjokohkkaa
open Go.ChangeShapes Go.WideShapes Go.ChangeAt Go.RowKit Go.BigFrame
open Go.Sort (grow)
set_option linter.unusedVariables false

def SkW (N : Nat) : Prop := ∀ (k1 : Int) (v1 : Int) (ds1 : List Int) (ks1 : List Co) (ads1 : Option Addr) (cds1 : Nat) (aks1 : Option Addr) (cks1 : Nat) (l : Int) (w : World), Co.bulk (Co.mk k1 v1 ds1 ks1) < N → Co.bulk (Co.mk k1 v1 ds1 ks1) ≤ 1048576 → 0 ≤ l → l ≤ 9 → Co.good (Co.mk k1 v1 ds1 ks1) = true → RdS w (Co.d (Co.mk k1 v1 ds1 ks1)) [.int .i64 k1, .int .i64 v1, .slice ads1 ds1.length cds1, .slice aks1 ks1.length cks1] →
  Calls Try.prog 72 #[.agg #[.int .i64 k1, .int .i64 v1, .slice ads1 ds1.length cds1, .slice aks1 ks1.length cks1], .int .i64 l] w fun e w' => e = .returned (.bool (Co.strat (Co.mk k1 v1 ds1 ks1) l)) ∧ Below w.heap.size w w'
def badLv (l : Int) (t : Co) : Bool := !Co.strat t l
theorem strats_any (l : Int) : ∀ ts : List Co, ts.any (badLv l) = !Co.strats ts l
  | [] => rfl
  | t :: ts => by rw [List.any_cons, strats_any l ts, Co.strats, badLv]; cases Co.strat t l <;> rfl
def lvOf (k l : Int) : Int := if k = 6 then l + 1 else l
set_option maxHeartbeats 1000000 in
theorem impl_st1 (N : Nat) (ih : SkW N) (k l : Int) (lb cb : Nat) (k1 : Int) (v1 : Int) (ds1 : List Int) (ks1 : List Co) (ads1 : Option Addr) (cds1 : Nat) (aks1 : Option Addr) (cks1 : Nat) (w : World) (hN : Co.bulk (Co.mk k1 v1 ds1 ks1) < N) (hM : Co.bulk (Co.mk k1 v1 ds1 ks1) ≤ 1048576) (hl0 : 0 ≤ l) (hl : l ≤ 8) (hg : Co.good (Co.mk k1 v1 ds1 ks1) = true)
    (y0 : w.cell? ⟨lb, 0, none⟩ = some (.int .i64 l)) (y1 : w.cell? ⟨cb, 0, none⟩ = some (.int .i64 k)) (hr : RdS w (Co.d (Co.mk k1 v1 ds1 ks1)) [.int .i64 k1, .int .i64 v1, .slice ads1 ds1.length cds1, .slice aks1 ks1.length cks1]) :
    Calls Try.prog 110 #[.agg #[.int .i64 k1, .int .i64 v1, .slice ads1 ds1.length cds1, .slice aks1 ks1.length cks1], .pointer (some ⟨lb, 0, none⟩), .pointer (some ⟨cb, 0, none⟩)] w fun e w' => e = .returned (.bool (badLv (lvOf k l) (Co.mk k1 v1 ds1 ks1))) ∧ Below w.heap.size w w' := by
  have HX0 := hid ((Boxes.nil w).alloc #[.int .i64 k1, .int .i64 v1, .slice ads1 ds1.length cds1, .slice aks1 ks1.length cks1] 30 (0, 0))
  have hB := (Below.refl w.heap.size w).alloc (Nat.le_refl _) (.cells #[.int .i64 k1, .int .i64 v1, .slice ads1 ds1.length cds1, .slice aks1 ks1.length cks1] 30)
  have HF := hid (show badLv (lvOf k l) (Co.mk k1 v1 ds1 ks1) = !Co.strat (Co.mk k1 v1 ds1 ks1) (lvOf k l) from rfl)
  have z0 := cell_regrown ((hB.cell (p := ⟨lb, 0, none⟩) (World.block_lt_of_cell? _ _ y0)).trans y0)
  have z1 := cell_regrown ((hB.cell (p := ⟨cb, 0, none⟩) (World.block_lt_of_cell? _ _ y1)).trans y1)
  have e0 := cell_regrown (HX0.out.at 0 0 rfl rfl)
  have e1 := cell_regrown (HX0.out.at 0 1 rfl rfl)
  have e2 := cell_regrown (HX0.out.at 0 2 rfl rfl)
  have e3 := cell_regrown (HX0.out.at 0 3 rfl rfl)
  have HB := hid hB
  by_cases h6 : k = 6
  case pos =>
    subst h6
    have hc := fun d os => Calls.regrown_of (ih k1 v1 ds1 ks1 ads1 cds1 aks1 cks1 (l + 1) (grow (redrawn (w.alloc (.cells #[.int .i64 k1, .int .i64 v1, .slice ads1 ds1.length cds1, .slice aks1 ks1.length cks1] 30)) d) os) hN hM (by omega) (by omega) hg ((hr.below hB).below (below_regrown _ d os)))
    have ht := fun d os => Calls.regrown_of ((impl_truth true (grow (redrawn (w.alloc (.cells #[.int .i64 k1, .int .i64 v1, .slice ads1 ds1.length cds1, .slice aks1 ks1.length cks1] 30)) d) os)).mono fun _ _ ⟨h, e⟩ => ⟨h, e ▸ Below.refl _ _⟩)
    simp only [if_true] at ht
    rw [show lvOf 6 l = l + 1 from rfl] at HF ⊢
    generalize hq : Co.strat (Co.mk k1 v1 ds1 ks1) (l + 1) = q at hc HF
    have HC := hid hc
    have HT := hid ht
    clear hc ht ih hr hB hq HX0 y0 y1 hN hM hg
    go_enter Try.func110, Try.ntmps110
    go_wp2_with fail
    refine wp_region_quiet_below (by kernel_rfl) (by kernel_rfl) ?_
    repeat (go_big_quiet_step (first | exact HT.out _ _ | exact HC.out _ _))
    refine wpQuiet_nil ?_
    intro _ hw'
    obtain ⟨⟨dq, osq⟩, hw''⟩ := hw'
    subst hw''
    have hbw := HB.out.trans ((below_regrown _ dq osq).mono HB.out.size)
    clear HC HT z0 z1 e0 e1 e2 e3
    go_wp2_with fail
    go_ret
    exact ⟨ret_bool HF.out.symm, hbw⟩
  case neg =>
    have g6 : (k == 6) = false := by simp [h6]
    have hlv : lvOf k l = l := by rw [lvOf, if_neg h6]
    have hc := fun d os => Calls.regrown_of (ih k1 v1 ds1 ks1 ads1 cds1 aks1 cks1 l (grow (redrawn (w.alloc (.cells #[.int .i64 k1, .int .i64 v1, .slice ads1 ds1.length cds1, .slice aks1 ks1.length cks1] 30)) d) os) hN hM (by omega) (by omega) hg ((hr.below hB).below (below_regrown _ d os)))
    have ht := fun d os => Calls.regrown_of ((impl_truth false (grow (redrawn (w.alloc (.cells #[.int .i64 k1, .int .i64 v1, .slice ads1 ds1.length cds1, .slice aks1 ks1.length cks1] 30)) d) os)).mono fun _ _ ⟨h, e⟩ => ⟨h, e ▸ Below.refl _ _⟩)
    simp only [Bool.false_eq_true, if_false] at ht
    rw [hlv] at HF ⊢
    generalize hq : Co.strat (Co.mk k1 v1 ds1 ks1) l = q at hc HF
    have HC := hid hc
    have HT := hid ht
    have hs2 : IntKind.i64.wrap l = l := IntWalk.i64_in _ (by omega)
    clear hc ht ih hr hB hq HX0 y0 y1 hN hM hg h6 hlv
    go_enter Try.func110, Try.ntmps110
    go_wp2_with fail
    refine wp_region_quiet_below (by kernel_rfl) (by kernel_rfl) ?_
    repeat (go_big_quiet_step (first | exact HT.out _ _ | exact HC.out _ _))
    refine wpQuiet_nil ?_
    intro _ hw'
    obtain ⟨⟨dq, osq⟩, hw''⟩ := hw'
    subst hw''
    have hbw := HB.out.trans ((below_regrown _ dq osq).mono HB.out.size)
    clear HC HT z0 z1 e0 e1 e2 e3 hs2
    go_wp2_with fail
    go_ret
    exact ⟨ret_bool HF.out.symm, hbw⟩
set_option maxRecDepth 100000 in
set_option maxHeartbeats 4000000 in
theorem sk_step (N : Nat) (ih : SkW N) : SkW (N + 1) := by
  intro k1 v1 ds1 ks1 ads1 cds1 aks1 cks1 l w hN hM hl0 hl9 hg hr
  have hbk : Co.bulk (Co.mk k1 v1 ds1 ks1) = In.bulks ds1 + Co.bulks ks1 := rfl
  have HE := hid (show Co.strat (Co.mk k1 v1 ds1 ks1) l = (decide (l ≤ 8) && (nodeOk k1 ks1 l && Co.strats ks1 (if k1 = 6 then l + 1 else l))) from rfl)
  have hgd : Co.good (Co.mk k1 v1 ds1 ks1) = (okCo k1 v1 ds1 ks1.length && Co.goods ks1) := rfl
  rw [hgd, Bool.and_eq_true] at hg
  have HX0 := hid (((Boxes.nil w).alloc #[.int .i64 k1, .int .i64 v1, .slice ads1 ds1.length cds1, .slice aks1 ks1.length cks1] 30 (0, 0)).alloc #[.int .i64 l] 2 (0, 0))
  have hB : Below w.heap.size w ((w.alloc (.cells #[.int .i64 k1, .int .i64 v1, .slice ads1 ds1.length cds1, .slice aks1 ks1.length cks1] 30)).alloc (.cells #[.int .i64 l] 2)) := ((Below.refl _ _).alloc (Nat.le_refl _) _).alloc (by simp) _
  have HB0 := hid hB
  by_cases hl8 : l ≤ 8
  case neg =>
    have hb8 : decide (8 < l) = true := by simp; omega
    have HF := hid (show Co.strat (Co.mk k1 v1 ds1 ks1) l = false by rw [HE.out]; simp; omega)
    clear hr ih hN hM hg hgd hbk HE hl8 hl0 hl9 HX0 hB
    go_enter Try.func72, Try.ntmps72
    go_wp2_with fail
    go_ret
    exact ⟨ret_bool HF.out.symm, HB0.out⟩
  case pos =>
  have hb8 : decide (8 < l) = false := by simp; omega
  have HE2 := hid (show Co.strat (Co.mk k1 v1 ds1 ks1) l = (nodeOk k1 ks1 l && Co.strats ks1 (lvOf k1 l)) by rw [HE.out]; simp [hl8, lvOf])
  have hcl := Co.bulks_length ks1
  have hlen : ks1.length ≤ 1048576 := by omega
  have gs := fun (V : World) (hb : Below (w.heap.size + 2) ((w.alloc (.cells #[.int .i64 k1, .int .i64 v1, .slice ads1 ds1.length cds1, .slice aks1 ks1.length cks1] 30)).alloc (.cells #[.int .i64 l] 2)) V) => hid (show V.cell? ⟨w.heap.size, 0, none⟩ = some (.int .i64 k1) ∧ V.cell? ⟨w.heap.size, 1, none⟩ = some (.int .i64 v1) ∧ V.cell? ⟨w.heap.size, 2, none⟩ = some (.slice ads1 ds1.length cds1) ∧ V.cell? ⟨w.heap.size, 3, none⟩ = some (.slice aks1 ks1.length cks1) ∧ V.cell? ⟨w.heap.size + 1, 0, none⟩ = some (.int .i64 l) by
    have h := HX0.out.below (w' := V) (by simpa using hb)
    have g5 := h.at 0 0 rfl rfl
    simp only [World.size_alloc] at g5
    exact ⟨h.at 1 0 rfl rfl, h.at 1 1 rfl rfl, h.at 1 2 rfl rfl, h.at 1 3 rfl rfl, g5⟩)
  have hbel := fun (V : World) (hb : Below (w.heap.size + 2) ((w.alloc (.cells #[.int .i64 k1, .int .i64 v1, .slice ads1 ds1.length cds1, .slice aks1 ks1.length cks1] 30)).alloc (.cells #[.int .i64 l] 2)) V) => hB.trans (hb.mono (Nat.le_add_right _ 2))
  have hkt := fun (V : World) (hb : Below (w.heap.size + 2) ((w.alloc (.cells #[.int .i64 k1, .int .i64 v1, .slice ads1 ds1.length cds1, .slice aks1 ks1.length cks1] 30)).alloc (.cells #[.int .i64 l] 2)) V) =>
    contains_Co_2 110 Try.call110 (.pointer (some ⟨w.heap.size + 1, 0, none⟩)) (.pointer (some ⟨w.heap.size, 0, none⟩)) (badLv (lvOf k1 l)) (fun U => U.cell? ⟨w.heap.size + 1, 0, none⟩ = some (.int .i64 l) ∧ U.cell? ⟨w.heap.size, 0, none⟩ = some (.int .i64 k1))
      (fun a b hab ⟨h1, h2⟩ => ⟨(hab.cell (p := ⟨w.heap.size + 1, 0, none⟩) (World.block_lt_of_cell? _ _ h1)).trans h1, (hab.cell (p := ⟨w.heap.size, 0, none⟩) (World.block_lt_of_cell? _ _ h2)).trans h2⟩) ks1 aks1 cks1 V ⟨(gs V hb).out.2.2.2.2, (gs V hb).out.1⟩ (hr.fCo.2.2.2.below (hbel V hb))
      (fun k3 v3 ds3 ks3 ads3 cds3 aks3 cks3 j U hj hU hru => impl_st1 N ih k1 l _ _ k3 v3 ds3 ks3 ads3 cds3 aks3 cks3 U (by have := Co.bulk_get ks1 j _ hj; omega) (by have := Co.bulk_get ks1 j _ hj; omega) hl0 hl8 (Co.goods_get ks1 j _ hg.2 hj) hU.1 hU.2 hru)
  rw [strats_any] at hkt
  have HKT := hid hkt
  have HGS := hid gs
  have HBE := hid hbel
  have HL0 := hid hl0
  clear hkt gs hbel ih hcl hgd HE hl9
  by_cases h4k : k1 = 4
  case pos =>
    subst h4k
    have hn : ks1.length = 1 := by
      have h := hg.1
      simp only [okCo, Bool.and_eq_true] at h
      have h := h.1
      simp [coN, inR] at h
      omega
    have hlt : 0 < ks1.length := by omega
    obtain ⟨_, _, e, h2, h3, h4⟩ := hr.fCo.2.2.2.eCo
    simp only [Value.slice.injEq, true_and] at e
    obtain ⟨rfl, rfl⟩ := e
    have HX := hid (show Co.strat (Co.mk 4 v1 ds1 ks1) l = (lamOk (levAt ks1 0 l) l && Co.strats ks1 (lvOf 4 l)) by rw [HE2.out, nodeOk, if_pos rfl])
    clear HE2
    obtain ⟨b, o, rfl, hbl, hall⟩ := h4 (by omega)
    obtain ⟨t, ht⟩ : ∃ t, ks1[0]? = some t := ⟨_, List.getElem?_eq_getElem hlt⟩
    obtain ⟨k3, v3, ds3, ks3⟩ := t
    obtain ⟨ads3, cds3, aks3, cks3, q0, q1, q2, q3, hrk⟩ := hall 0 k3 v3 ds3 ks3 ht
    clear hall h4
    have hbg := Co.bulk_get ks1 0 _ ht
    have hgk := Co.goods_get ks1 0 _ hg.2 ht
    have hM3 : Co.bulk (.mk k3 v3 ds3 ks3) ≤ 1048576 := by omega
    have hlv := levAt_eq ht l
    rw [hlv] at HX
    rcases hL : Co.lev (.mk k3 v3 ds3 ks3) 0 l with _ | ⟨x, L⟩
    case nil =>
      rw [hL] at HX
      have hc := fun V (hb : Below (w.heap.size + 2) ((w.alloc (.cells #[.int .i64 4, .int .i64 v1, .slice ads1 ds1.length cds1, .slice (some ⟨b, o, none⟩) ks1.length cks1] 30)).alloc (.cells #[.int .i64 l] 2)) V) => impl_lev_nil k3 v3 ds3 ks3 ads3 cds3 aks3 cks3 l V hl0 (by omega) hM3 hgk (hrk.below (HBE.out V hb)) hL
      have HC := hid hc
      have HF := hid (show Co.strat (Co.mk 4 v1 ds1 ks1) l = Co.strats ks1 (lvOf 4 l) by rw [HX.out]; rfl)
      clear hc hrk HX hL hlv hgk hM3 hbg ht hr hg hn hN hM hbk h2 h3 hB HX0
      have hS : ∀ V : World, Below (w.heap.size + 2) ((w.alloc (.cells #[.int .i64 4, .int .i64 v1, .slice ads1 ds1.length cds1, .slice (some ⟨b, o, none⟩) ks1.length cks1] 30)).alloc (.cells #[.int .i64 l] 2)) V → (Below (w.heap.size + 2) ((w.alloc (.cells #[.int .i64 4, .int .i64 v1, .slice ads1 ds1.length cds1, .slice (some ⟨b, o, none⟩) ks1.length cks1] 30)).alloc (.cells #[.int .i64 l] 2)) V ∧ V.cell? ⟨w.heap.size, 0, none⟩ = some (.int .i64 4) ∧ V.cell? ⟨w.heap.size, 1, none⟩ = some (.int .i64 v1) ∧ V.cell? ⟨w.heap.size, 2, none⟩ = some (.slice ads1 ds1.length cds1) ∧ V.cell? ⟨w.heap.size, 3, none⟩ = some (.slice (some ⟨b, o, none⟩) ks1.length cks1) ∧ V.cell? ⟨w.heap.size + 1, 0, none⟩ = some (.int .i64 l) ∧ V.cell? ⟨b, o, none⟩ = some (.int .i64 k3) ∧ V.cell? ⟨b, o + 1, none⟩ = some (.int .i64 v3) ∧ V.cell? ⟨b, o + 2, none⟩ = some (.slice ads3 ds3.length cds3) ∧ V.cell? ⟨b, o + 3, none⟩ = some (.slice aks3 ks3.length cks3)) := fun V hb => by
        obtain ⟨g0, g1, g2, g3, g5⟩ := (HGS.out V hb).out
        have hbw := HBE.out V hb
        exact ⟨hb, g0, g1, g2, g3, g5, (hbw.cell (p := ⟨b, o + 0 * 4, none⟩) hbl).trans q0, (hbw.cell (p := ⟨b, o + 0 * 4 + 1, none⟩) hbl).trans q1, (hbw.cell (p := ⟨b, o + 0 * 4 + 2, none⟩) hbl).trans q2, (hbw.cell (p := ⟨b, o + 0 * 4 + 3, none⟩) hbl).trans q3⟩
      have HS := hid hS
      have hbd : Below (w.heap.size + 2) ((w.alloc (.cells #[.int .i64 4, .int .i64 v1, .slice ads1 ds1.length cds1, .slice (some ⟨b, o, none⟩) ks1.length cks1] 30)).alloc (.cells #[.int .i64 l] 2)) ((w.alloc (.cells #[.int .i64 4, .int .i64 v1, .slice ads1 ds1.length cds1, .slice (some ⟨b, o, none⟩) ks1.length cks1] 30)).alloc (.cells #[.int .i64 l] 2)).drew := (Below.refl _ _).drew
      have HSD := hid (hS _ hbd)
      obtain ⟨-, s0, s1, s2, s3, s5, t0, t1, t2, t3⟩ := hS _ hbd
      clear hS
      go_enter Try.func72, Try.ntmps72
      go_wp2_with fail
      go_region_held3 (fun V => (Below (w.heap.size + 2) ((w.alloc (.cells #[.int .i64 4, .int .i64 v1, .slice ads1 ds1.length cds1, .slice (some ⟨b, o, none⟩) ks1.length cks1] 30)).alloc (.cells #[.int .i64 l] 2)) V ∧ V.cell? ⟨w.heap.size, 0, none⟩ = some (.int .i64 4) ∧ V.cell? ⟨w.heap.size, 1, none⟩ = some (.int .i64 v1) ∧ V.cell? ⟨w.heap.size, 2, none⟩ = some (.slice ads1 ds1.length cds1) ∧ V.cell? ⟨w.heap.size, 3, none⟩ = some (.slice (some ⟨b, o, none⟩) ks1.length cks1) ∧ V.cell? ⟨w.heap.size + 1, 0, none⟩ = some (.int .i64 l) ∧ V.cell? ⟨b, o, none⟩ = some (.int .i64 k3) ∧ V.cell? ⟨b, o + 1, none⟩ = some (.int .i64 v3) ∧ V.cell? ⟨b, o + 2, none⟩ = some (.slice ads3 ds3.length cds3) ∧ V.cell? ⟨b, o + 3, none⟩ = some (.slice aks3 ks3.length cks3)))
        (first | assumption | exact HSD.out | exact HS.out _ hbS | go_keep)
        ((go_at_call 108; (with_reducible refine (HC.out _ ?_).mono ?_); (exact (‹Below (w.heap.size + 2) ((w.alloc (.cells #[.int .i64 4, .int .i64 v1, .slice ads1 ds1.length cds1, .slice (some ⟨b, o, none⟩) ks1.length cks1] 30)).alloc (.cells #[.int .i64 l] 2)) _ ∧ _›).1); rintro e V1 ⟨a, c, rfl, hq1⟩; have hbS : Below (w.heap.size + 2) ((w.alloc (.cells #[.int .i64 4, .int .i64 v1, .slice ads1 ds1.length cds1, .slice (some ⟨b, o, none⟩) ks1.length cks1] 30)).alloc (.cells #[.int .i64 l] 2)) V1 := (‹Below (w.heap.size + 2) ((w.alloc (.cells #[.int .i64 4, .int .i64 v1, .slice ads1 ds1.length cds1, .slice (some ⟨b, o, none⟩) ks1.length cks1] 30)).alloc (.cells #[.int .i64 l] 2)) _ ∧ _›).1.trans (hq1.mono (by simp))))
      clear s0 s1 s2 s3 s5 t0 t1 t2 t3 HS HSD
      have HBS := hid hbS
      clear hbS hq1 hbd
      go_wp2_with fail
      refine wp_region_quiet_below (by kernel_rfl) (by kernel_rfl) ?_
      repeat (go_big_quiet_step (fail))
      refine wpQuiet_nil ?_
      intro _ hw'
      obtain ⟨⟨dq, osq⟩, hw''⟩ := hw'
      subst hw''
      have HBW := hid (HBS.out.trans ((below_regrown _ dq osq).mono (by have := HBS.out.size; simpa using this)))
      obtain ⟨g0, g1, g2, g3, g5⟩ := (HGS.out _ HBW.out).out
      go_wp2_with fail
      refine (HKT.out _ HBW.out).mono ?_
      rintro e wk ⟨rfl, hbk9⟩
      have hbf := (HBE.out _ HBW.out).trans (hbk9.mono (HBE.out _ HBW.out).size)
      clear hbk9
      go_wp2_with fail
      go_ret
      exact ⟨ret_bool (by rw [HF.out]), hbf⟩
    case cons =>
      rw [hL] at HX
      generalize hn0 : L.length + 1 = n
      have hc := fun V (hb : Below (w.heap.size + 2) ((w.alloc (.cells #[.int .i64 4, .int .i64 v1, .slice ads1 ds1.length cds1, .slice (some ⟨b, o, none⟩) ks1.length cks1] 30)).alloc (.cells #[.int .i64 l] 2)) V) => impl_lev_cons k3 v3 ds3 ks3 ads3 cds3 aks3 cks3 l x L n V hl0 (by omega) hM3 hgk (hrk.below (HBE.out V hb)) hL hn0
      have HC := hid hc
      clear hc hrk hL hlv hgk hM3 hbg ht hr hg hn hN hM hbk h2 h3 hB HX0
      by_cases hn1 : n = 1
      case neg =>
        have hb1 : decide ((1 : Int) < n) = true := by simp; omega
        have HF := hid (show Co.strat (Co.mk 4 v1 ds1 ks1) l = false by rw [HX.out, lamOk, List.length_cons, hn0]; simp; omega)
        clear hn0 hn1 HX hl0 hl8
        have hS : ∀ V : World, Below (w.heap.size + 2) ((w.alloc (.cells #[.int .i64 4, .int .i64 v1, .slice ads1 ds1.length cds1, .slice (some ⟨b, o, none⟩) ks1.length cks1] 30)).alloc (.cells #[.int .i64 l] 2)) V → (Below (w.heap.size + 2) ((w.alloc (.cells #[.int .i64 4, .int .i64 v1, .slice ads1 ds1.length cds1, .slice (some ⟨b, o, none⟩) ks1.length cks1] 30)).alloc (.cells #[.int .i64 l] 2)) V ∧ V.cell? ⟨w.heap.size, 0, none⟩ = some (.int .i64 4) ∧ V.cell? ⟨w.heap.size, 1, none⟩ = some (.int .i64 v1) ∧ V.cell? ⟨w.heap.size, 2, none⟩ = some (.slice ads1 ds1.length cds1) ∧ V.cell? ⟨w.heap.size, 3, none⟩ = some (.slice (some ⟨b, o, none⟩) ks1.length cks1) ∧ V.cell? ⟨w.heap.size + 1, 0, none⟩ = some (.int .i64 l) ∧ V.cell? ⟨b, o, none⟩ = some (.int .i64 k3) ∧ V.cell? ⟨b, o + 1, none⟩ = some (.int .i64 v3) ∧ V.cell? ⟨b, o + 2, none⟩ = some (.slice ads3 ds3.length cds3) ∧ V.cell? ⟨b, o + 3, none⟩ = some (.slice aks3 ks3.length cks3)) := fun V hb => by
          obtain ⟨g0, g1, g2, g3, g5⟩ := (HGS.out V hb).out
          have hbw := HBE.out V hb
          exact ⟨hb, g0, g1, g2, g3, g5, (hbw.cell (p := ⟨b, o + 0 * 4, none⟩) hbl).trans q0, (hbw.cell (p := ⟨b, o + 0 * 4 + 1, none⟩) hbl).trans q1, (hbw.cell (p := ⟨b, o + 0 * 4 + 2, none⟩) hbl).trans q2, (hbw.cell (p := ⟨b, o + 0 * 4 + 3, none⟩) hbl).trans q3⟩
        have HS := hid hS
        have hbd : Below (w.heap.size + 2) ((w.alloc (.cells #[.int .i64 4, .int .i64 v1, .slice ads1 ds1.length cds1, .slice (some ⟨b, o, none⟩) ks1.length cks1] 30)).alloc (.cells #[.int .i64 l] 2)) ((w.alloc (.cells #[.int .i64 4, .int .i64 v1, .slice ads1 ds1.length cds1, .slice (some ⟨b, o, none⟩) ks1.length cks1] 30)).alloc (.cells #[.int .i64 l] 2)).drew := (Below.refl _ _).drew
        have HSD := hid (hS _ hbd)
        obtain ⟨-, s0, s1, s2, s3, s5, t0, t1, t2, t3⟩ := hS _ hbd
        clear hS
        go_enter Try.func72, Try.ntmps72
        go_wp2_with fail
        go_region_held3 (fun V => (Below (w.heap.size + 2) ((w.alloc (.cells #[.int .i64 4, .int .i64 v1, .slice ads1 ds1.length cds1, .slice (some ⟨b, o, none⟩) ks1.length cks1] 30)).alloc (.cells #[.int .i64 l] 2)) V ∧ V.cell? ⟨w.heap.size, 0, none⟩ = some (.int .i64 4) ∧ V.cell? ⟨w.heap.size, 1, none⟩ = some (.int .i64 v1) ∧ V.cell? ⟨w.heap.size, 2, none⟩ = some (.slice ads1 ds1.length cds1) ∧ V.cell? ⟨w.heap.size, 3, none⟩ = some (.slice (some ⟨b, o, none⟩) ks1.length cks1) ∧ V.cell? ⟨w.heap.size + 1, 0, none⟩ = some (.int .i64 l) ∧ V.cell? ⟨b, o, none⟩ = some (.int .i64 k3) ∧ V.cell? ⟨b, o + 1, none⟩ = some (.int .i64 v3) ∧ V.cell? ⟨b, o + 2, none⟩ = some (.slice ads3 ds3.length cds3) ∧ V.cell? ⟨b, o + 3, none⟩ = some (.slice aks3 ks3.length cks3)))
          (first | assumption | exact HSD.out | exact HS.out _ hbS | go_keep)
          ((go_at_call 108; (with_reducible refine (HC.out _ ?_).mono ?_); (exact (‹Below (w.heap.size + 2) ((w.alloc (.cells #[.int .i64 4, .int .i64 v1, .slice ads1 ds1.length cds1, .slice (some ⟨b, o, none⟩) ks1.length cks1] 30)).alloc (.cells #[.int .i64 l] 2)) _ ∧ _›).1); rintro e V1 ⟨g, c, rfl, hge, hc0, hq1, -⟩; have hbS : Below (w.heap.size + 2) ((w.alloc (.cells #[.int .i64 4, .int .i64 v1, .slice ads1 ds1.length cds1, .slice (some ⟨b, o, none⟩) ks1.length cks1] 30)).alloc (.cells #[.int .i64 l] 2)) V1 := (‹Below (w.heap.size + 2) ((w.alloc (.cells #[.int .i64 4, .int .i64 v1, .slice ads1 ds1.length cds1, .slice (some ⟨b, o, none⟩) ks1.length cks1] 30)).alloc (.cells #[.int .i64 l] 2)) _ ∧ _›).1.trans (hq1.mono (by simp)); have HC0 := hid hc0))
        clear s0 s1 s2 s3 s5 t0 t1 t2 t3 HS HSD
        have HBS := hid hbS
        clear hbS hq1 hbd hc0
        obtain ⟨-, -, -, -, g5⟩ := (HGS.out _ HBS.out).out
        have z5 := cell_regrown g5
        have zc := cell_regrown HC0.out
        clear g5
        go_wp2_with fail
        refine wp_region_quiet_below (by kernel_rfl) (by kernel_rfl) ?_
        repeat (go_big_quiet_step (fail))
        refine wpQuiet_nil ?_
        intro _ hw'
        obtain ⟨⟨dq, osq⟩, hw''⟩ := hw'
        subst hw''
        have HBW := hid (HBS.out.trans ((below_regrown _ dq osq).mono (by have := HBS.out.size; simpa using this)))
        clear z5 zc HC0
        go_wp2_with fail
        go_ret
        exact ⟨ret_bool HF.out.symm, HBE.out _ HBW.out⟩
      case pos =>
        subst hn1
        obtain rfl : L = [] := List.eq_nil_of_length_eq_zero (by omega)
        clear hn0
        by_cases hx : x = l
        case neg =>
          have hxb : (x != l) = true := by simp [hx]
          have HF := hid (show Co.strat (Co.mk 4 v1 ds1 ks1) l = false by rw [HX.out]; simp [lamOk, allEq, hx])
          clear hx HX hl0 hl8
          have hS : ∀ V : World, Below (w.heap.size + 2) ((w.alloc (.cells #[.int .i64 4, .int .i64 v1, .slice ads1 ds1.length cds1, .slice (some ⟨b, o, none⟩) ks1.length cks1] 30)).alloc (.cells #[.int .i64 l] 2)) V → (Below (w.heap.size + 2) ((w.alloc (.cells #[.int .i64 4, .int .i64 v1, .slice ads1 ds1.length cds1, .slice (some ⟨b, o, none⟩) ks1.length cks1] 30)).alloc (.cells #[.int .i64 l] 2)) V ∧ V.cell? ⟨w.heap.size, 0, none⟩ = some (.int .i64 4) ∧ V.cell? ⟨w.heap.size, 1, none⟩ = some (.int .i64 v1) ∧ V.cell? ⟨w.heap.size, 2, none⟩ = some (.slice ads1 ds1.length cds1) ∧ V.cell? ⟨w.heap.size, 3, none⟩ = some (.slice (some ⟨b, o, none⟩) ks1.length cks1) ∧ V.cell? ⟨w.heap.size + 1, 0, none⟩ = some (.int .i64 l) ∧ V.cell? ⟨b, o, none⟩ = some (.int .i64 k3) ∧ V.cell? ⟨b, o + 1, none⟩ = some (.int .i64 v3) ∧ V.cell? ⟨b, o + 2, none⟩ = some (.slice ads3 ds3.length cds3) ∧ V.cell? ⟨b, o + 3, none⟩ = some (.slice aks3 ks3.length cks3)) := fun V hb => by
            obtain ⟨g0, g1, g2, g3, g5⟩ := (HGS.out V hb).out
            have hbw := HBE.out V hb
            exact ⟨hb, g0, g1, g2, g3, g5, (hbw.cell (p := ⟨b, o + 0 * 4, none⟩) hbl).trans q0, (hbw.cell (p := ⟨b, o + 0 * 4 + 1, none⟩) hbl).trans q1, (hbw.cell (p := ⟨b, o + 0 * 4 + 2, none⟩) hbl).trans q2, (hbw.cell (p := ⟨b, o + 0 * 4 + 3, none⟩) hbl).trans q3⟩
          have HS := hid hS
          have hbd : Below (w.heap.size + 2) ((w.alloc (.cells #[.int .i64 4, .int .i64 v1, .slice ads1 ds1.length cds1, .slice (some ⟨b, o, none⟩) ks1.length cks1] 30)).alloc (.cells #[.int .i64 l] 2)) ((w.alloc (.cells #[.int .i64 4, .int .i64 v1, .slice ads1 ds1.length cds1, .slice (some ⟨b, o, none⟩) ks1.length cks1] 30)).alloc (.cells #[.int .i64 l] 2)).drew := (Below.refl _ _).drew
          have HSD := hid (hS _ hbd)
          obtain ⟨-, s0, s1, s2, s3, s5, t0, t1, t2, t3⟩ := hS _ hbd
          clear hS
          go_enter Try.func72, Try.ntmps72
          go_wp2_with fail
          go_region_held3 (fun V => (Below (w.heap.size + 2) ((w.alloc (.cells #[.int .i64 4, .int .i64 v1, .slice ads1 ds1.length cds1, .slice (some ⟨b, o, none⟩) ks1.length cks1] 30)).alloc (.cells #[.int .i64 l] 2)) V ∧ V.cell? ⟨w.heap.size, 0, none⟩ = some (.int .i64 4) ∧ V.cell? ⟨w.heap.size, 1, none⟩ = some (.int .i64 v1) ∧ V.cell? ⟨w.heap.size, 2, none⟩ = some (.slice ads1 ds1.length cds1) ∧ V.cell? ⟨w.heap.size, 3, none⟩ = some (.slice (some ⟨b, o, none⟩) ks1.length cks1) ∧ V.cell? ⟨w.heap.size + 1, 0, none⟩ = some (.int .i64 l) ∧ V.cell? ⟨b, o, none⟩ = some (.int .i64 k3) ∧ V.cell? ⟨b, o + 1, none⟩ = some (.int .i64 v3) ∧ V.cell? ⟨b, o + 2, none⟩ = some (.slice ads3 ds3.length cds3) ∧ V.cell? ⟨b, o + 3, none⟩ = some (.slice aks3 ks3.length cks3)))
            (first | assumption | exact HSD.out | exact HS.out _ hbS | go_keep)
            ((go_at_call 108; (with_reducible refine (HC.out _ ?_).mono ?_); (exact (‹Below (w.heap.size + 2) ((w.alloc (.cells #[.int .i64 4, .int .i64 v1, .slice ads1 ds1.length cds1, .slice (some ⟨b, o, none⟩) ks1.length cks1] 30)).alloc (.cells #[.int .i64 l] 2)) _ ∧ _›).1); rintro e V1 ⟨g, c, rfl, hge, hc0, hq1, -⟩; have hbS : Below (w.heap.size + 2) ((w.alloc (.cells #[.int .i64 4, .int .i64 v1, .slice ads1 ds1.length cds1, .slice (some ⟨b, o, none⟩) ks1.length cks1] 30)).alloc (.cells #[.int .i64 l] 2)) V1 := (‹Below (w.heap.size + 2) ((w.alloc (.cells #[.int .i64 4, .int .i64 v1, .slice ads1 ds1.length cds1, .slice (some ⟨b, o, none⟩) ks1.length cks1] 30)).alloc (.cells #[.int .i64 l] 2)) _ ∧ _›).1.trans (hq1.mono (by simp)); have HC0 := hid hc0))
          clear s0 s1 s2 s3 s5 t0 t1 t2 t3 HS HSD
          have HBS := hid hbS
          clear hbS hq1 hbd hc0
          obtain ⟨-, -, -, -, g5⟩ := (HGS.out _ HBS.out).out
          have z5 := cell_regrown g5
          have zc := cell_regrown HC0.out
          clear g5
          go_wp2_with fail
          refine wp_region_quiet_below (by kernel_rfl) (by kernel_rfl) ?_
          repeat (go_big_quiet_step (fail))
          refine wpQuiet_nil ?_
          intro _ hw'
          obtain ⟨⟨dq, osq⟩, hw''⟩ := hw'
          subst hw''
          have HBW := hid (HBS.out.trans ((below_regrown _ dq osq).mono (by have := HBS.out.size; simpa using this)))
          clear z5 zc HC0
          go_wp2_with fail
          go_ret
          exact ⟨ret_bool HF.out.symm, HBE.out _ HBW.out⟩
        case pos =>
          have hxb : (x != l) = false := by simp [hx]
          have HF := hid (show Co.strat (Co.mk 4 v1 ds1 ks1) l = Co.strats ks1 (lvOf 4 l) by rw [HX.out]; simp [lamOk, allEq, hx])
          clear hx HX hl0 hl8
          have hS : ∀ V : World, Below (w.heap.size + 2) ((w.alloc (.cells #[.int .i64 4, .int .i64 v1, .slice ads1 ds1.length cds1, .slice (some ⟨b, o, none⟩) ks1.length cks1] 30)).alloc (.cells #[.int .i64 l] 2)) V → (Below (w.heap.size + 2) ((w.alloc (.cells #[.int .i64 4, .int .i64 v1, .slice ads1 ds1.length cds1, .slice (some ⟨b, o, none⟩) ks1.length cks1] 30)).alloc (.cells #[.int .i64 l] 2)) V ∧ V.cell? ⟨w.heap.size, 0, none⟩ = some (.int .i64 4) ∧ V.cell? ⟨w.heap.size, 1, none⟩ = some (.int .i64 v1) ∧ V.cell? ⟨w.heap.size, 2, none⟩ = some (.slice ads1 ds1.length cds1) ∧ V.cell? ⟨w.heap.size, 3, none⟩ = some (.slice (some ⟨b, o, none⟩) ks1.length cks1) ∧ V.cell? ⟨w.heap.size + 1, 0, none⟩ = some (.int .i64 l) ∧ V.cell? ⟨b, o, none⟩ = some (.int .i64 k3) ∧ V.cell? ⟨b, o + 1, none⟩ = some (.int .i64 v3) ∧ V.cell? ⟨b, o + 2, none⟩ = some (.slice ads3 ds3.length cds3) ∧ V.cell? ⟨b, o + 3, none⟩ = some (.slice aks3 ks3.length cks3)) := fun V hb => by
            obtain ⟨g0, g1, g2, g3, g5⟩ := (HGS.out V hb).out
            have hbw := HBE.out V hb
            exact ⟨hb, g0, g1, g2, g3, g5, (hbw.cell (p := ⟨b, o + 0 * 4, none⟩) hbl).trans q0, (hbw.cell (p := ⟨b, o + 0 * 4 + 1, none⟩) hbl).trans q1, (hbw.cell (p := ⟨b, o + 0 * 4 + 2, none⟩) hbl).trans q2, (hbw.cell (p := ⟨b, o + 0 * 4 + 3, none⟩) hbl).trans q3⟩
          have HS := hid hS
          have hbd : Below (w.heap.size + 2) ((w.alloc (.cells #[.int .i64 4, .int .i64 v1, .slice ads1 ds1.length cds1, .slice (some ⟨b, o, none⟩) ks1.length cks1] 30)).alloc (.cells #[.int .i64 l] 2)) ((w.alloc (.cells #[.int .i64 4, .int .i64 v1, .slice ads1 ds1.length cds1, .slice (some ⟨b, o, none⟩) ks1.length cks1] 30)).alloc (.cells #[.int .i64 l] 2)).drew := (Below.refl _ _).drew
          have HSD := hid (hS _ hbd)
          obtain ⟨-, s0, s1, s2, s3, s5, t0, t1, t2, t3⟩ := hS _ hbd
          clear hS
          go_enter Try.func72, Try.ntmps72
          go_wp2_with fail
          go_region_held3 (fun V => (Below (w.heap.size + 2) ((w.alloc (.cells #[.int .i64 4, .int .i64 v1, .slice ads1 ds1.length cds1, .slice (some ⟨b, o, none⟩) ks1.length cks1] 30)).alloc (.cells #[.int .i64 l] 2)) V ∧ V.cell? ⟨w.heap.size, 0, none⟩ = some (.int .i64 4) ∧ V.cell? ⟨w.heap.size, 1, none⟩ = some (.int .i64 v1) ∧ V.cell? ⟨w.heap.size, 2, none⟩ = some (.slice ads1 ds1.length cds1) ∧ V.cell? ⟨w.heap.size, 3, none⟩ = some (.slice (some ⟨b, o, none⟩) ks1.length cks1) ∧ V.cell? ⟨w.heap.size + 1, 0, none⟩ = some (.int .i64 l) ∧ V.cell? ⟨b, o, none⟩ = some (.int .i64 k3) ∧ V.cell? ⟨b, o + 1, none⟩ = some (.int .i64 v3) ∧ V.cell? ⟨b, o + 2, none⟩ = some (.slice ads3 ds3.length cds3) ∧ V.cell? ⟨b, o + 3, none⟩ = some (.slice aks3 ks3.length cks3)))
            (first | assumption | exact HSD.out | exact HS.out _ hbS | go_keep)
            ((go_at_call 108; (with_reducible refine (HC.out _ ?_).mono ?_); (exact (‹Below (w.heap.size + 2) ((w.alloc (.cells #[.int .i64 4, .int .i64 v1, .slice ads1 ds1.length cds1, .slice (some ⟨b, o, none⟩) ks1.length cks1] 30)).alloc (.cells #[.int .i64 l] 2)) _ ∧ _›).1); rintro e V1 ⟨g, c, rfl, hge, hc0, hq1, -⟩; have hbS : Below (w.heap.size + 2) ((w.alloc (.cells #[.int .i64 4, .int .i64 v1, .slice ads1 ds1.length cds1, .slice (some ⟨b, o, none⟩) ks1.length cks1] 30)).alloc (.cells #[.int .i64 l] 2)) V1 := (‹Below (w.heap.size + 2) ((w.alloc (.cells #[.int .i64 4, .int .i64 v1, .slice ads1 ds1.length cds1, .slice (some ⟨b, o, none⟩) ks1.length cks1] 30)).alloc (.cells #[.int .i64 l] 2)) _ ∧ _›).1.trans (hq1.mono (by simp)); have HC0 := hid hc0))
          clear s0 s1 s2 s3 s5 t0 t1 t2 t3 HS HSD
          have HBS := hid hbS
          clear hbS hq1 hbd hc0
          obtain ⟨-, -, -, -, g5⟩ := (HGS.out _ HBS.out).out
          have z5 := cell_regrown g5
          have zc := cell_regrown HC0.out
          clear g5
          go_wp2_with fail
          refine wp_region_quiet_below (by kernel_rfl) (by kernel_rfl) ?_
          repeat (go_big_quiet_step (fail))
          refine wpQuiet_nil ?_
          intro _ hw'
          obtain ⟨⟨dq, osq⟩, hw''⟩ := hw'
          subst hw''
          have HBW := hid (HBS.out.trans ((below_regrown _ dq osq).mono (by have := HBS.out.size; simpa using this)))
          clear z5 zc HC0
          obtain ⟨g0, g1, g2, g3, g5⟩ := (HGS.out _ HBW.out).out
          go_wp2_with fail
          refine (HKT.out _ HBW.out).mono ?_
          rintro e wk ⟨rfl, hbk9⟩
          have hbf := (HBE.out _ HBW.out).trans (hbk9.mono (HBE.out _ HBW.out).size)
          clear hbk9
          go_wp2_with fail
          go_ret
          exact ⟨ret_bool (by rw [HF.out]), hbf⟩
  case neg =>
  by_cases h7k : k1 = 7
  case pos =>
    subst h7k
    clear h4k
    have hn : ks1.length = 2 := by
      have h := hg.1
      simp only [okCo, Bool.and_eq_true] at h
      have h := h.1
      simp [coN, inR] at h
      omega
    have hlt : 1 < ks1.length := by omega
    have hlti : (1 : Int) < (ks1.length : Int) := by omega
    obtain ⟨_, _, e, h2, h3, h4⟩ := hr.fCo.2.2.2.eCo
    simp only [Value.slice.injEq, true_and] at e
    obtain ⟨rfl, rfl⟩ := e
    have HX := hid (show Co.strat (Co.mk 7 v1 ds1 ks1) l = (letOk (levAt ks1 1 l) l && Co.strats ks1 (lvOf 7 l)) by rw [HE2.out, nodeOk, if_neg (by decide), if_pos rfl])
    clear HE2
    obtain ⟨b, o, rfl, hbl, hall⟩ := h4 (by omega)
    obtain ⟨t, ht⟩ : ∃ t, ks1[1]? = some t := ⟨_, List.getElem?_eq_getElem hlt⟩
    obtain ⟨k3, v3, ds3, ks3⟩ := t
    obtain ⟨ads3, cds3, aks3, cks3, q0, q1, q2, q3, hrk⟩ := hall 1 k3 v3 ds3 ks3 ht
    clear hall h4
    have hbg := Co.bulk_get ks1 1 _ ht
    have hgk := Co.goods_get ks1 1 _ hg.2 ht
    have hM3 : Co.bulk (.mk k3 v3 ds3 ks3) ≤ 1048576 := by omega
    have hlv := levAt_eq ht l
    rw [hlv] at HX
    rcases hL : Co.lev (.mk k3 v3 ds3 ks3) 0 l with _ | ⟨x, L⟩
    case nil =>
      rw [hL] at HX
      have hc := fun V (hb : Below (w.heap.size + 2) ((w.alloc (.cells #[.int .i64 7, .int .i64 v1, .slice ads1 ds1.length cds1, .slice (some ⟨b, o, none⟩) ks1.length cks1] 30)).alloc (.cells #[.int .i64 l] 2)) V) => impl_lev_nil k3 v3 ds3 ks3 ads3 cds3 aks3 cks3 l V hl0 (by omega) hM3 hgk (hrk.below (HBE.out V hb)) hL
      have HC := hid hc
      have HF := hid (show Co.strat (Co.mk 7 v1 ds1 ks1) l = Co.strats ks1 (lvOf 7 l) by rw [HX.out]; rfl)
      clear hc hrk HX hL hlv hgk hM3 hbg ht hr hg hn hN hM hbk h2 h3 hB HX0
      have hS : ∀ V : World, Below (w.heap.size + 2) ((w.alloc (.cells #[.int .i64 7, .int .i64 v1, .slice ads1 ds1.length cds1, .slice (some ⟨b, o, none⟩) ks1.length cks1] 30)).alloc (.cells #[.int .i64 l] 2)) V → (Below (w.heap.size + 2) ((w.alloc (.cells #[.int .i64 7, .int .i64 v1, .slice ads1 ds1.length cds1, .slice (some ⟨b, o, none⟩) ks1.length cks1] 30)).alloc (.cells #[.int .i64 l] 2)) V ∧ V.cell? ⟨w.heap.size, 0, none⟩ = some (.int .i64 7) ∧ V.cell? ⟨w.heap.size, 1, none⟩ = some (.int .i64 v1) ∧ V.cell? ⟨w.heap.size, 2, none⟩ = some (.slice ads1 ds1.length cds1) ∧ V.cell? ⟨w.heap.size, 3, none⟩ = some (.slice (some ⟨b, o, none⟩) ks1.length cks1) ∧ V.cell? ⟨w.heap.size + 1, 0, none⟩ = some (.int .i64 l) ∧ V.cell? ⟨b, o + 4, none⟩ = some (.int .i64 k3) ∧ V.cell? ⟨b, o + 4 + 1, none⟩ = some (.int .i64 v3) ∧ V.cell? ⟨b, o + 4 + 2, none⟩ = some (.slice ads3 ds3.length cds3) ∧ V.cell? ⟨b, o + 4 + 3, none⟩ = some (.slice aks3 ks3.length cks3)) := fun V hb => by
        obtain ⟨g0, g1, g2, g3, g5⟩ := (HGS.out V hb).out
        have hbw := HBE.out V hb
        exact ⟨hb, g0, g1, g2, g3, g5, (hbw.cell (p := ⟨b, o + 1 * 4, none⟩) hbl).trans q0, (hbw.cell (p := ⟨b, o + 1 * 4 + 1, none⟩) hbl).trans q1, (hbw.cell (p := ⟨b, o + 1 * 4 + 2, none⟩) hbl).trans q2, (hbw.cell (p := ⟨b, o + 1 * 4 + 3, none⟩) hbl).trans q3⟩
      have HS := hid hS
      have hbd : Below (w.heap.size + 2) ((w.alloc (.cells #[.int .i64 7, .int .i64 v1, .slice ads1 ds1.length cds1, .slice (some ⟨b, o, none⟩) ks1.length cks1] 30)).alloc (.cells #[.int .i64 l] 2)) ((w.alloc (.cells #[.int .i64 7, .int .i64 v1, .slice ads1 ds1.length cds1, .slice (some ⟨b, o, none⟩) ks1.length cks1] 30)).alloc (.cells #[.int .i64 l] 2)).drew := (Below.refl _ _).drew
      have HSD := hid (hS _ hbd)
      obtain ⟨-, s0, s1, s2, s3, s5, t0, t1, t2, t3⟩ := hS _ hbd
      clear hS
      go_enter Try.func72, Try.ntmps72
      go_wp2_with fail
      go_region_held3 (fun V => (Below (w.heap.size + 2) ((w.alloc (.cells #[.int .i64 7, .int .i64 v1, .slice ads1 ds1.length cds1, .slice (some ⟨b, o, none⟩) ks1.length cks1] 30)).alloc (.cells #[.int .i64 l] 2)) V ∧ V.cell? ⟨w.heap.size, 0, none⟩ = some (.int .i64 7) ∧ V.cell? ⟨w.heap.size, 1, none⟩ = some (.int .i64 v1) ∧ V.cell? ⟨w.heap.size, 2, none⟩ = some (.slice ads1 ds1.length cds1) ∧ V.cell? ⟨w.heap.size, 3, none⟩ = some (.slice (some ⟨b, o, none⟩) ks1.length cks1) ∧ V.cell? ⟨w.heap.size + 1, 0, none⟩ = some (.int .i64 l) ∧ V.cell? ⟨b, o + 4, none⟩ = some (.int .i64 k3) ∧ V.cell? ⟨b, o + 4 + 1, none⟩ = some (.int .i64 v3) ∧ V.cell? ⟨b, o + 4 + 2, none⟩ = some (.slice ads3 ds3.length cds3) ∧ V.cell? ⟨b, o + 4 + 3, none⟩ = some (.slice aks3 ks3.length cks3)))
        (first | assumption | exact HSD.out | exact HS.out _ hbS | go_keep)
        ((go_at_call 108; (with_reducible refine (HC.out _ ?_).mono ?_); (exact (‹Below (w.heap.size + 2) ((w.alloc (.cells #[.int .i64 7, .int .i64 v1, .slice ads1 ds1.length cds1, .slice (some ⟨b, o, none⟩) ks1.length cks1] 30)).alloc (.cells #[.int .i64 l] 2)) _ ∧ _›).1); rintro e V1 ⟨a, c, rfl, hq1⟩; have hbS : Below (w.heap.size + 2) ((w.alloc (.cells #[.int .i64 7, .int .i64 v1, .slice ads1 ds1.length cds1, .slice (some ⟨b, o, none⟩) ks1.length cks1] 30)).alloc (.cells #[.int .i64 l] 2)) V1 := (‹Below (w.heap.size + 2) ((w.alloc (.cells #[.int .i64 7, .int .i64 v1, .slice ads1 ds1.length cds1, .slice (some ⟨b, o, none⟩) ks1.length cks1] 30)).alloc (.cells #[.int .i64 l] 2)) _ ∧ _›).1.trans (hq1.mono (by simp))))
      clear s0 s1 s2 s3 s5 t0 t1 t2 t3 HS HSD
      have HBS := hid hbS
      clear hbS hq1 hbd
      have hz := fun d os => Calls.regrown_of ((Try.slices_Compact_int_empty a c (Go.Sort.grow (redrawn V1 d) os)).mono fun _ _ ⟨h, e⟩ => ⟨h, e ▸ Below.refl _ _⟩)
      have HZ := hid hz
      clear hz
      go_wp2_with fail
      refine wp_region_quiet_below (by kernel_rfl) (by kernel_rfl) ?_
      repeat (go_big_quiet_step (exact HZ.out _ _))
      refine wpQuiet_nil ?_
      intro _ hw'
      obtain ⟨⟨dq, osq⟩, hw''⟩ := hw'
      subst hw''
      have HBW := hid (HBS.out.trans ((below_regrown _ dq osq).mono (by have := HBS.out.size; simpa using this)))
      clear HZ
      obtain ⟨g0, g1, g2, g3, g5⟩ := (HGS.out _ HBW.out).out
      go_wp2_with fail
      refine (HKT.out _ HBW.out).mono ?_
      rintro e wk ⟨rfl, hbk9⟩
      have hbf := (HBE.out _ HBW.out).trans (hbk9.mono (HBE.out _ HBW.out).size)
      clear hbk9
      go_wp2_with fail
      go_ret
      exact ⟨ret_bool (by rw [HF.out]), hbf⟩
    case cons =>
      rw [hL] at HX
      generalize hn0 : L.length + 1 = n
      have hc := fun V (hb : Below (w.heap.size + 2) ((w.alloc (.cells #[.int .i64 7, .int .i64 v1, .slice ads1 ds1.length cds1, .slice (some ⟨b, o, none⟩) ks1.length cks1] 30)).alloc (.cells #[.int .i64 l] 2)) V) => impl_lev_cons k3 v3 ds3 ks3 ads3 cds3 aks3 cks3 l x L n V hl0 (by omega) hM3 hgk (hrk.below (HBE.out V hb)) hL hn0
      have HC := hid hc
      have HN0 := hid hn0
      have hn1 : 0 < n := by omega
      have hnb : decide ((0 : Int) < n) = true := by simp; omega
      clear hc hrk hL hlv hgk hM3 hbg ht hr hg hn hN hM hbk h2 h3 hB HX0 hn0
      by_cases hae : allEq L x = true
      case neg =>
        replace hae := (Bool.not_eq_true _).mp hae
        have HF := hid (show Co.strat (Co.mk 7 v1 ds1 ks1) l = false by rw [HX.out, let_diff hae]; rfl)
        have HAE := hid hae
        clear hae HX hl0 hl8
        have hS : ∀ V : World, Below (w.heap.size + 2) ((w.alloc (.cells #[.int .i64 7, .int .i64 v1, .slice ads1 ds1.length cds1, .slice (some ⟨b, o, none⟩) ks1.length cks1] 30)).alloc (.cells #[.int .i64 l] 2)) V → (Below (w.heap.size + 2) ((w.alloc (.cells #[.int .i64 7, .int .i64 v1, .slice ads1 ds1.length cds1, .slice (some ⟨b, o, none⟩) ks1.length cks1] 30)).alloc (.cells #[.int .i64 l] 2)) V ∧ V.cell? ⟨w.heap.size, 0, none⟩ = some (.int .i64 7) ∧ V.cell? ⟨w.heap.size, 1, none⟩ = some (.int .i64 v1) ∧ V.cell? ⟨w.heap.size, 2, none⟩ = some (.slice ads1 ds1.length cds1) ∧ V.cell? ⟨w.heap.size, 3, none⟩ = some (.slice (some ⟨b, o, none⟩) ks1.length cks1) ∧ V.cell? ⟨w.heap.size + 1, 0, none⟩ = some (.int .i64 l) ∧ V.cell? ⟨b, o + 4, none⟩ = some (.int .i64 k3) ∧ V.cell? ⟨b, o + 4 + 1, none⟩ = some (.int .i64 v3) ∧ V.cell? ⟨b, o + 4 + 2, none⟩ = some (.slice ads3 ds3.length cds3) ∧ V.cell? ⟨b, o + 4 + 3, none⟩ = some (.slice aks3 ks3.length cks3)) := fun V hb => by
          obtain ⟨g0, g1, g2, g3, g5⟩ := (HGS.out V hb).out
          have hbw := HBE.out V hb
          exact ⟨hb, g0, g1, g2, g3, g5, (hbw.cell (p := ⟨b, o + 1 * 4, none⟩) hbl).trans q0, (hbw.cell (p := ⟨b, o + 1 * 4 + 1, none⟩) hbl).trans q1, (hbw.cell (p := ⟨b, o + 1 * 4 + 2, none⟩) hbl).trans q2, (hbw.cell (p := ⟨b, o + 1 * 4 + 3, none⟩) hbl).trans q3⟩
        have HS := hid hS
        have hbd : Below (w.heap.size + 2) ((w.alloc (.cells #[.int .i64 7, .int .i64 v1, .slice ads1 ds1.length cds1, .slice (some ⟨b, o, none⟩) ks1.length cks1] 30)).alloc (.cells #[.int .i64 l] 2)) ((w.alloc (.cells #[.int .i64 7, .int .i64 v1, .slice ads1 ds1.length cds1, .slice (some ⟨b, o, none⟩) ks1.length cks1] 30)).alloc (.cells #[.int .i64 l] 2)).drew := (Below.refl _ _).drew
        have HSD := hid (hS _ hbd)
        obtain ⟨-, s0, s1, s2, s3, s5, t0, t1, t2, t3⟩ := hS _ hbd
        clear hS
        go_enter Try.func72, Try.ntmps72
        go_wp2_with fail
        go_region_held3 (fun V => (Below (w.heap.size + 2) ((w.alloc (.cells #[.int .i64 7, .int .i64 v1, .slice ads1 ds1.length cds1, .slice (some ⟨b, o, none⟩) ks1.length cks1] 30)).alloc (.cells #[.int .i64 l] 2)) V ∧ V.cell? ⟨w.heap.size, 0, none⟩ = some (.int .i64 7) ∧ V.cell? ⟨w.heap.size, 1, none⟩ = some (.int .i64 v1) ∧ V.cell? ⟨w.heap.size, 2, none⟩ = some (.slice ads1 ds1.length cds1) ∧ V.cell? ⟨w.heap.size, 3, none⟩ = some (.slice (some ⟨b, o, none⟩) ks1.length cks1) ∧ V.cell? ⟨w.heap.size + 1, 0, none⟩ = some (.int .i64 l) ∧ V.cell? ⟨b, o + 4, none⟩ = some (.int .i64 k3) ∧ V.cell? ⟨b, o + 4 + 1, none⟩ = some (.int .i64 v3) ∧ V.cell? ⟨b, o + 4 + 2, none⟩ = some (.slice ads3 ds3.length cds3) ∧ V.cell? ⟨b, o + 4 + 3, none⟩ = some (.slice aks3 ks3.length cks3)))
          (first | assumption | exact HSD.out | exact HS.out _ hbS | go_keep)
          ((go_at_call 108; (with_reducible refine (HC.out _ ?_).mono ?_); (exact (‹Below (w.heap.size + 2) ((w.alloc (.cells #[.int .i64 7, .int .i64 v1, .slice ads1 ds1.length cds1, .slice (some ⟨b, o, none⟩) ks1.length cks1] 30)).alloc (.cells #[.int .i64 l] 2)) _ ∧ _›).1); rintro e V1 ⟨g, c, rfl, hge, hc0, hq1, ho9⟩; have hbS : Below (w.heap.size + 2) ((w.alloc (.cells #[.int .i64 7, .int .i64 v1, .slice ads1 ds1.length cds1, .slice (some ⟨b, o, none⟩) ks1.length cks1] 30)).alloc (.cells #[.int .i64 l] 2)) V1 := (‹Below (w.heap.size + 2) ((w.alloc (.cells #[.int .i64 7, .int .i64 v1, .slice ads1 ds1.length cds1, .slice (some ⟨b, o, none⟩) ks1.length cks1] 30)).alloc (.cells #[.int .i64 l] 2)) _ ∧ _›).1.trans (hq1.mono (by simp)); have HC0 := hid hc0; have HGE := hid hge; have HOX8 := hid ho9))
        clear s0 s1 s2 s3 s5 t0 t1 t2 t3 HS HSD
        have HBS := hid hbS
        clear hbS hq1 hbd hc0 hge ho9
        have hbd7 : Below (w.heap.size + 2) ((w.alloc (.cells #[.int .i64 7, .int .i64 v1, .slice ads1 ds1.length cds1, .slice (some ⟨b, o, none⟩) ks1.length cks1] 30)).alloc (.cells #[.int .i64 l] 2)) V1.drew := HBS.out.drew
        have e9 : (((w.alloc (.cells #[.int .i64 7, .int .i64 v1, .slice ads1 ds1.length cds1, .slice (some ⟨b, o, none⟩) ks1.length cks1] 30)).alloc (.cells #[.int .i64 l] 2)).drew).heap.size = w.heap.size + 2 := by simp
        have h9 := HOX8.out
        rw [e9] at h9
        have HOX9 := hid (show V1.drew.ownsRow (w.heap.size + 2) 2 1 (.slice (some ⟨g, 0, none⟩) n c) n ((x :: L).map (Value.int .i64)) from h9)
        clear e9 h9
        have hcp := fun W h1 h2 => impl_Compact g n c x L (w.heap.size + 2) W h1 HN0.out h2
        have hm := compact_test x L
        rw [HAE.out] at hm
        replace hm : decide ((1 : Int) < (Lib.compact (x :: L)).length) = true := hm
        generalize (Lib.compact (x :: L)).length = m at hcp hm
        have HCP := hid hcp
        clear hcp
        go_wp2_with fail
        refine wp_region_head 2 (by kernel_rfl) (by kernel_rfl) ?_
        simp only [List.take_succ_cons, List.take_zero, List.drop_succ_cons, List.drop_zero]
        go_wp2_with fail
        refine (HCP.out _ (by have h9 := hbd7.size; simpa using h9) HOX9.out).mono ?_
        rintro e V2 ⟨rfl, hcS7, hq2, -⟩
        have hbS7 : Below (w.heap.size + 2) ((w.alloc (.cells #[.int .i64 7, .int .i64 v1, .slice ads1 ds1.length cds1, .slice (some ⟨b, o, none⟩) ks1.length cks1] 30)).alloc (.cells #[.int .i64 l] 2)) V2 := hbd7.trans hq2
        have v5 := cell_regrown (HGS.out _ hbS7).out.2.2.2.2
        have v6 := cell_regrown hcS7
        have HBS7 := hid hbS7
        clear hbS7 hcS7 hq2 HCP
        go_wp2_with fail
        show QuietRest _ _ _ _ _ _
        unfold QuietRest
        repeat (go_big_quiet_step (fail))
        refine wpQuiet_nil ?_
        intro _ hw'
        obtain ⟨⟨dq, osq⟩, hw''⟩ := hw'
        subst hw''
        have HBW := hid (HBS7.out.trans ((below_regrown _ dq osq).mono (by have := HBS7.out.size; simpa using this)))
        clear v5 v6
        clear hbd7 HOX9
        go_wp2_with fail
        go_ret
        exact ⟨ret_bool HF.out.symm, HBE.out _ HBW.out⟩
      case pos =>
        have hlo := let_same (n := l) hae
        have HAE := hid hae
        by_cases hx : x = l
        case pos =>
          have hxb : (x != l) = false := by simp [hx]
          have HF := hid (show Co.strat (Co.mk 7 v1 ds1 ks1) l = Co.strats ks1 (lvOf 7 l) by rw [HX.out, hlo]; simp [hx])
          clear hae hlo hx HX hl0 hl8
          have hS : ∀ V : World, Below (w.heap.size + 2) ((w.alloc (.cells #[.int .i64 7, .int .i64 v1, .slice ads1 ds1.length cds1, .slice (some ⟨b, o, none⟩) ks1.length cks1] 30)).alloc (.cells #[.int .i64 l] 2)) V → (Below (w.heap.size + 2) ((w.alloc (.cells #[.int .i64 7, .int .i64 v1, .slice ads1 ds1.length cds1, .slice (some ⟨b, o, none⟩) ks1.length cks1] 30)).alloc (.cells #[.int .i64 l] 2)) V ∧ V.cell? ⟨w.heap.size, 0, none⟩ = some (.int .i64 7) ∧ V.cell? ⟨w.heap.size, 1, none⟩ = some (.int .i64 v1) ∧ V.cell? ⟨w.heap.size, 2, none⟩ = some (.slice ads1 ds1.length cds1) ∧ V.cell? ⟨w.heap.size, 3, none⟩ = some (.slice (some ⟨b, o, none⟩) ks1.length cks1) ∧ V.cell? ⟨w.heap.size + 1, 0, none⟩ = some (.int .i64 l) ∧ V.cell? ⟨b, o + 4, none⟩ = some (.int .i64 k3) ∧ V.cell? ⟨b, o + 4 + 1, none⟩ = some (.int .i64 v3) ∧ V.cell? ⟨b, o + 4 + 2, none⟩ = some (.slice ads3 ds3.length cds3) ∧ V.cell? ⟨b, o + 4 + 3, none⟩ = some (.slice aks3 ks3.length cks3)) := fun V hb => by
            obtain ⟨g0, g1, g2, g3, g5⟩ := (HGS.out V hb).out
            have hbw := HBE.out V hb
            exact ⟨hb, g0, g1, g2, g3, g5, (hbw.cell (p := ⟨b, o + 1 * 4, none⟩) hbl).trans q0, (hbw.cell (p := ⟨b, o + 1 * 4 + 1, none⟩) hbl).trans q1, (hbw.cell (p := ⟨b, o + 1 * 4 + 2, none⟩) hbl).trans q2, (hbw.cell (p := ⟨b, o + 1 * 4 + 3, none⟩) hbl).trans q3⟩
          have HS := hid hS
          have hbd : Below (w.heap.size + 2) ((w.alloc (.cells #[.int .i64 7, .int .i64 v1, .slice ads1 ds1.length cds1, .slice (some ⟨b, o, none⟩) ks1.length cks1] 30)).alloc (.cells #[.int .i64 l] 2)) ((w.alloc (.cells #[.int .i64 7, .int .i64 v1, .slice ads1 ds1.length cds1, .slice (some ⟨b, o, none⟩) ks1.length cks1] 30)).alloc (.cells #[.int .i64 l] 2)).drew := (Below.refl _ _).drew
          have HSD := hid (hS _ hbd)
          obtain ⟨-, s0, s1, s2, s3, s5, t0, t1, t2, t3⟩ := hS _ hbd
          clear hS
          go_enter Try.func72, Try.ntmps72
          go_wp2_with fail
          go_region_held3 (fun V => (Below (w.heap.size + 2) ((w.alloc (.cells #[.int .i64 7, .int .i64 v1, .slice ads1 ds1.length cds1, .slice (some ⟨b, o, none⟩) ks1.length cks1] 30)).alloc (.cells #[.int .i64 l] 2)) V ∧ V.cell? ⟨w.heap.size, 0, none⟩ = some (.int .i64 7) ∧ V.cell? ⟨w.heap.size, 1, none⟩ = some (.int .i64 v1) ∧ V.cell? ⟨w.heap.size, 2, none⟩ = some (.slice ads1 ds1.length cds1) ∧ V.cell? ⟨w.heap.size, 3, none⟩ = some (.slice (some ⟨b, o, none⟩) ks1.length cks1) ∧ V.cell? ⟨w.heap.size + 1, 0, none⟩ = some (.int .i64 l) ∧ V.cell? ⟨b, o + 4, none⟩ = some (.int .i64 k3) ∧ V.cell? ⟨b, o + 4 + 1, none⟩ = some (.int .i64 v3) ∧ V.cell? ⟨b, o + 4 + 2, none⟩ = some (.slice ads3 ds3.length cds3) ∧ V.cell? ⟨b, o + 4 + 3, none⟩ = some (.slice aks3 ks3.length cks3)))
            (first | assumption | exact HSD.out | exact HS.out _ hbS | go_keep)
            ((go_at_call 108; (with_reducible refine (HC.out _ ?_).mono ?_); (exact (‹Below (w.heap.size + 2) ((w.alloc (.cells #[.int .i64 7, .int .i64 v1, .slice ads1 ds1.length cds1, .slice (some ⟨b, o, none⟩) ks1.length cks1] 30)).alloc (.cells #[.int .i64 l] 2)) _ ∧ _›).1); rintro e V1 ⟨g, c, rfl, hge, hc0, hq1, ho9⟩; have hbS : Below (w.heap.size + 2) ((w.alloc (.cells #[.int .i64 7, .int .i64 v1, .slice ads1 ds1.length cds1, .slice (some ⟨b, o, none⟩) ks1.length cks1] 30)).alloc (.cells #[.int .i64 l] 2)) V1 := (‹Below (w.heap.size + 2) ((w.alloc (.cells #[.int .i64 7, .int .i64 v1, .slice ads1 ds1.length cds1, .slice (some ⟨b, o, none⟩) ks1.length cks1] 30)).alloc (.cells #[.int .i64 l] 2)) _ ∧ _›).1.trans (hq1.mono (by simp)); have HC0 := hid hc0; have HGE := hid hge; have HOX8 := hid ho9))
          clear s0 s1 s2 s3 s5 t0 t1 t2 t3 HS HSD
          have HBS := hid hbS
          clear hbS hq1 hbd hc0 hge ho9
          have hbd7 : Below (w.heap.size + 2) ((w.alloc (.cells #[.int .i64 7, .int .i64 v1, .slice ads1 ds1.length cds1, .slice (some ⟨b, o, none⟩) ks1.length cks1] 30)).alloc (.cells #[.int .i64 l] 2)) V1.drew := HBS.out.drew
          have e9 : (((w.alloc (.cells #[.int .i64 7, .int .i64 v1, .slice ads1 ds1.length cds1, .slice (some ⟨b, o, none⟩) ks1.length cks1] 30)).alloc (.cells #[.int .i64 l] 2)).drew).heap.size = w.heap.size + 2 := by simp
          have h9 := HOX8.out
          rw [e9] at h9
          have HOX9 := hid (show V1.drew.ownsRow (w.heap.size + 2) 2 1 (.slice (some ⟨g, 0, none⟩) n c) n ((x :: L).map (Value.int .i64)) from h9)
          clear e9 h9
          have hcp := fun W h1 h2 => impl_Compact g n c x L (w.heap.size + 2) W h1 HN0.out h2
          have hm := compact_test x L
          rw [HAE.out] at hm
          replace hm : decide ((1 : Int) < (Lib.compact (x :: L)).length) = false := hm
          generalize (Lib.compact (x :: L)).length = m at hcp hm
          have HCP := hid hcp
          clear hcp
          go_wp2_with fail
          refine wp_region_head 2 (by kernel_rfl) (by kernel_rfl) ?_
          simp only [List.take_succ_cons, List.take_zero, List.drop_succ_cons, List.drop_zero]
          go_wp2_with fail
          refine (HCP.out _ (by have h9 := hbd7.size; simpa using h9) HOX9.out).mono ?_
          rintro e V2 ⟨rfl, hcS7, hq2, -⟩
          have hbS7 : Below (w.heap.size + 2) ((w.alloc (.cells #[.int .i64 7, .int .i64 v1, .slice ads1 ds1.length cds1, .slice (some ⟨b, o, none⟩) ks1.length cks1] 30)).alloc (.cells #[.int .i64 l] 2)) V2 := hbd7.trans hq2
          have v5 := cell_regrown (HGS.out _ hbS7).out.2.2.2.2
          have v6 := cell_regrown hcS7
          have HBS7 := hid hbS7
          clear hbS7 hcS7 hq2 HCP
          go_wp2_with fail
          show QuietRest _ _ _ _ _ _
          unfold QuietRest
          repeat (go_big_quiet_step (fail))
          refine wpQuiet_nil ?_
          intro _ hw'
          obtain ⟨⟨dq, osq⟩, hw''⟩ := hw'
          subst hw''
          have HBW := hid (HBS7.out.trans ((below_regrown _ dq osq).mono (by have := HBS7.out.size; simpa using this)))
          clear v5 v6
          clear hbd7 HOX9
          obtain ⟨g0, g1, g2, g3, g5⟩ := (HGS.out _ HBW.out).out
          go_wp2_with fail
          refine (HKT.out _ HBW.out).mono ?_
          rintro e wk ⟨rfl, hbk9⟩
          have hbf := (HBE.out _ HBW.out).trans (hbk9.mono (HBE.out _ HBW.out).size)
          clear hbk9
          go_wp2_with fail
          go_ret
          exact ⟨ret_bool (by rw [HF.out]), hbf⟩
        case neg =>
          have hxb : (x != l) = true := by simp [hx]
          by_cases hx2 : x = l + 1
          case pos =>
            have hxb2 : (x != l + 1) = false := by simp [hx2]
            have HF := hid (show Co.strat (Co.mk 7 v1 ds1 ks1) l = Co.strats ks1 (lvOf 7 l) by rw [HX.out, hlo]; simp [hx2])
            have hs9 : IntKind.i64.wrap (l + 1) = l + 1 := IntWalk.i64_in _ (by omega)
            clear hae hlo hx hx2 HX
            have hS : ∀ V : World, Below (w.heap.size + 2) ((w.alloc (.cells #[.int .i64 7, .int .i64 v1, .slice ads1 ds1.length cds1, .slice (some ⟨b, o, none⟩) ks1.length cks1] 30)).alloc (.cells #[.int .i64 l] 2)) V → (Below (w.heap.size + 2) ((w.alloc (.cells #[.int .i64 7, .int .i64 v1, .slice ads1 ds1.length cds1, .slice (some ⟨b, o, none⟩) ks1.length cks1] 30)).alloc (.cells #[.int .i64 l] 2)) V ∧ V.cell? ⟨w.heap.size, 0, none⟩ = some (.int .i64 7) ∧ V.cell? ⟨w.heap.size, 1, none⟩ = some (.int .i64 v1) ∧ V.cell? ⟨w.heap.size, 2, none⟩ = some (.slice ads1 ds1.length cds1) ∧ V.cell? ⟨w.heap.size, 3, none⟩ = some (.slice (some ⟨b, o, none⟩) ks1.length cks1) ∧ V.cell? ⟨w.heap.size + 1, 0, none⟩ = some (.int .i64 l) ∧ V.cell? ⟨b, o + 4, none⟩ = some (.int .i64 k3) ∧ V.cell? ⟨b, o + 4 + 1, none⟩ = some (.int .i64 v3) ∧ V.cell? ⟨b, o + 4 + 2, none⟩ = some (.slice ads3 ds3.length cds3) ∧ V.cell? ⟨b, o + 4 + 3, none⟩ = some (.slice aks3 ks3.length cks3)) := fun V hb => by
              obtain ⟨g0, g1, g2, g3, g5⟩ := (HGS.out V hb).out
              have hbw := HBE.out V hb
              exact ⟨hb, g0, g1, g2, g3, g5, (hbw.cell (p := ⟨b, o + 1 * 4, none⟩) hbl).trans q0, (hbw.cell (p := ⟨b, o + 1 * 4 + 1, none⟩) hbl).trans q1, (hbw.cell (p := ⟨b, o + 1 * 4 + 2, none⟩) hbl).trans q2, (hbw.cell (p := ⟨b, o + 1 * 4 + 3, none⟩) hbl).trans q3⟩
            have HS := hid hS
            have hbd : Below (w.heap.size + 2) ((w.alloc (.cells #[.int .i64 7, .int .i64 v1, .slice ads1 ds1.length cds1, .slice (some ⟨b, o, none⟩) ks1.length cks1] 30)).alloc (.cells #[.int .i64 l] 2)) ((w.alloc (.cells #[.int .i64 7, .int .i64 v1, .slice ads1 ds1.length cds1, .slice (some ⟨b, o, none⟩) ks1.length cks1] 30)).alloc (.cells #[.int .i64 l] 2)).drew := (Below.refl _ _).drew
            have HSD := hid (hS _ hbd)
            obtain ⟨-, s0, s1, s2, s3, s5, t0, t1, t2, t3⟩ := hS _ hbd
            clear hS
            go_enter Try.func72, Try.ntmps72
            go_wp2_with fail
            go_region_held3 (fun V => (Below (w.heap.size + 2) ((w.alloc (.cells #[.int .i64 7, .int .i64 v1, .slice ads1 ds1.length cds1, .slice (some ⟨b, o, none⟩) ks1.length cks1] 30)).alloc (.cells #[.int .i64 l] 2)) V ∧ V.cell? ⟨w.heap.size, 0, none⟩ = some (.int .i64 7) ∧ V.cell? ⟨w.heap.size, 1, none⟩ = some (.int .i64 v1) ∧ V.cell? ⟨w.heap.size, 2, none⟩ = some (.slice ads1 ds1.length cds1) ∧ V.cell? ⟨w.heap.size, 3, none⟩ = some (.slice (some ⟨b, o, none⟩) ks1.length cks1) ∧ V.cell? ⟨w.heap.size + 1, 0, none⟩ = some (.int .i64 l) ∧ V.cell? ⟨b, o + 4, none⟩ = some (.int .i64 k3) ∧ V.cell? ⟨b, o + 4 + 1, none⟩ = some (.int .i64 v3) ∧ V.cell? ⟨b, o + 4 + 2, none⟩ = some (.slice ads3 ds3.length cds3) ∧ V.cell? ⟨b, o + 4 + 3, none⟩ = some (.slice aks3 ks3.length cks3)))
              (first | assumption | exact HSD.out | exact HS.out _ hbS | go_keep)
              ((go_at_call 108; (with_reducible refine (HC.out _ ?_).mono ?_); (exact (‹Below (w.heap.size + 2) ((w.alloc (.cells #[.int .i64 7, .int .i64 v1, .slice ads1 ds1.length cds1, .slice (some ⟨b, o, none⟩) ks1.length cks1] 30)).alloc (.cells #[.int .i64 l] 2)) _ ∧ _›).1); rintro e V1 ⟨g, c, rfl, hge, hc0, hq1, ho9⟩; have hbS : Below (w.heap.size + 2) ((w.alloc (.cells #[.int .i64 7, .int .i64 v1, .slice ads1 ds1.length cds1, .slice (some ⟨b, o, none⟩) ks1.length cks1] 30)).alloc (.cells #[.int .i64 l] 2)) V1 := (‹Below (w.heap.size + 2) ((w.alloc (.cells #[.int .i64 7, .int .i64 v1, .slice ads1 ds1.length cds1, .slice (some ⟨b, o, none⟩) ks1.length cks1] 30)).alloc (.cells #[.int .i64 l] 2)) _ ∧ _›).1.trans (hq1.mono (by simp)); have HC0 := hid hc0; have HGE := hid hge; have HOX8 := hid ho9))
            clear s0 s1 s2 s3 s5 t0 t1 t2 t3 HS HSD
            have HBS := hid hbS
            clear hbS hq1 hbd hc0 hge ho9
            have hbd7 : Below (w.heap.size + 2) ((w.alloc (.cells #[.int .i64 7, .int .i64 v1, .slice ads1 ds1.length cds1, .slice (some ⟨b, o, none⟩) ks1.length cks1] 30)).alloc (.cells #[.int .i64 l] 2)) V1.drew := HBS.out.drew
            have e9 : (((w.alloc (.cells #[.int .i64 7, .int .i64 v1, .slice ads1 ds1.length cds1, .slice (some ⟨b, o, none⟩) ks1.length cks1] 30)).alloc (.cells #[.int .i64 l] 2)).drew).heap.size = w.heap.size + 2 := by simp
            have h9 := HOX8.out
            rw [e9] at h9
            have HOX9 := hid (show V1.drew.ownsRow (w.heap.size + 2) 2 1 (.slice (some ⟨g, 0, none⟩) n c) n ((x :: L).map (Value.int .i64)) from h9)
            clear e9 h9
            have hcp := fun W h1 h2 => impl_Compact g n c x L (w.heap.size + 2) W h1 HN0.out h2
            have hm := compact_test x L
            rw [HAE.out] at hm
            replace hm : decide ((1 : Int) < (Lib.compact (x :: L)).length) = false := hm
            generalize (Lib.compact (x :: L)).length = m at hcp hm
            have HCP := hid hcp
            clear hcp
            go_wp2_with fail
            refine wp_region_head 2 (by kernel_rfl) (by kernel_rfl) ?_
            simp only [List.take_succ_cons, List.take_zero, List.drop_succ_cons, List.drop_zero]
            go_wp2_with fail
            refine (HCP.out _ (by have h9 := hbd7.size; simpa using h9) HOX9.out).mono ?_
            rintro e V2 ⟨rfl, hcS7, hq2, -⟩
            have hbS7 : Below (w.heap.size + 2) ((w.alloc (.cells #[.int .i64 7, .int .i64 v1, .slice ads1 ds1.length cds1, .slice (some ⟨b, o, none⟩) ks1.length cks1] 30)).alloc (.cells #[.int .i64 l] 2)) V2 := hbd7.trans hq2
            have v5 := cell_regrown (HGS.out _ hbS7).out.2.2.2.2
            have v6 := cell_regrown hcS7
            have HBS7 := hid hbS7
            clear hbS7 hcS7 hq2 HCP
            go_wp2_with fail
            show QuietRest _ _ _ _ _ _
            unfold QuietRest
            repeat (go_big_quiet_step (fail))
            refine wpQuiet_nil ?_
            intro _ hw'
            obtain ⟨⟨dq, osq⟩, hw''⟩ := hw'
            subst hw''
            have HBW := hid (HBS7.out.trans ((below_regrown _ dq osq).mono (by have := HBS7.out.size; simpa using this)))
            clear v5 v6
            clear hbd7 HOX9
            obtain ⟨g0, g1, g2, g3, g5⟩ := (HGS.out _ HBW.out).out
            go_wp2_with fail
            refine (HKT.out _ HBW.out).mono ?_
            rintro e wk ⟨rfl, hbk9⟩
            have hbf := (HBE.out _ HBW.out).trans (hbk9.mono (HBE.out _ HBW.out).size)
            clear hbk9
            go_wp2_with fail
            go_ret
            exact ⟨ret_bool (by rw [HF.out]), hbf⟩
          case neg =>
            have hxb2 : (x != l + 1) = true := by simp [hx2]
            have HF := hid (show Co.strat (Co.mk 7 v1 ds1 ks1) l = false by rw [HX.out, hlo]; simp [hx, hx2])
            have hs9 : IntKind.i64.wrap (l + 1) = l + 1 := IntWalk.i64_in _ (by omega)
            clear hae hlo hx hx2 HX
            have hS : ∀ V : World, Below (w.heap.size + 2) ((w.alloc (.cells #[.int .i64 7, .int .i64 v1, .slice ads1 ds1.length cds1, .slice (some ⟨b, o, none⟩) ks1.length cks1] 30)).alloc (.cells #[.int .i64 l] 2)) V → (Below (w.heap.size + 2) ((w.alloc (.cells #[.int .i64 7, .int .i64 v1, .slice ads1 ds1.length cds1, .slice (some ⟨b, o, none⟩) ks1.length cks1] 30)).alloc (.cells #[.int .i64 l] 2)) V ∧ V.cell? ⟨w.heap.size, 0, none⟩ = some (.int .i64 7) ∧ V.cell? ⟨w.heap.size, 1, none⟩ = some (.int .i64 v1) ∧ V.cell? ⟨w.heap.size, 2, none⟩ = some (.slice ads1 ds1.length cds1) ∧ V.cell? ⟨w.heap.size, 3, none⟩ = some (.slice (some ⟨b, o, none⟩) ks1.length cks1) ∧ V.cell? ⟨w.heap.size + 1, 0, none⟩ = some (.int .i64 l) ∧ V.cell? ⟨b, o + 4, none⟩ = some (.int .i64 k3) ∧ V.cell? ⟨b, o + 4 + 1, none⟩ = some (.int .i64 v3) ∧ V.cell? ⟨b, o + 4 + 2, none⟩ = some (.slice ads3 ds3.length cds3) ∧ V.cell? ⟨b, o + 4 + 3, none⟩ = some (.slice aks3 ks3.length cks3)) := fun V hb => by
              obtain ⟨g0, g1, g2, g3, g5⟩ := (HGS.out V hb).out
              have hbw := HBE.out V hb
              exact ⟨hb, g0, g1, g2, g3, g5, (hbw.cell (p := ⟨b, o + 1 * 4, none⟩) hbl).trans q0, (hbw.cell (p := ⟨b, o + 1 * 4 + 1, none⟩) hbl).trans q1, (hbw.cell (p := ⟨b, o + 1 * 4 + 2, none⟩) hbl).trans q2, (hbw.cell (p := ⟨b, o + 1 * 4 + 3, none⟩) hbl).trans q3⟩
            have HS := hid hS
            have hbd : Below (w.heap.size + 2) ((w.alloc (.cells #[.int .i64 7, .int .i64 v1, .slice ads1 ds1.length cds1, .slice (some ⟨b, o, none⟩) ks1.length cks1] 30)).alloc (.cells #[.int .i64 l] 2)) ((w.alloc (.cells #[.int .i64 7, .int .i64 v1, .slice ads1 ds1.length cds1, .slice (some ⟨b, o, none⟩) ks1.length cks1] 30)).alloc (.cells #[.int .i64 l] 2)).drew := (Below.refl _ _).drew
            have HSD := hid (hS _ hbd)
            obtain ⟨-, s0, s1, s2, s3, s5, t0, t1, t2, t3⟩ := hS _ hbd
            clear hS
            go_enter Try.func72, Try.ntmps72
            go_wp2_with fail
            go_region_held3 (fun V => (Below (w.heap.size + 2) ((w.alloc (.cells #[.int .i64 7, .int .i64 v1, .slice ads1 ds1.length cds1, .slice (some ⟨b, o, none⟩) ks1.length cks1] 30)).alloc (.cells #[.int .i64 l] 2)) V ∧ V.cell? ⟨w.heap.size, 0, none⟩ = some (.int .i64 7) ∧ V.cell? ⟨w.heap.size, 1, none⟩ = some (.int .i64 v1) ∧ V.cell? ⟨w.heap.size, 2, none⟩ = some (.slice ads1 ds1.length cds1) ∧ V.cell? ⟨w.heap.size, 3, none⟩ = some (.slice (some ⟨b, o, none⟩) ks1.length cks1) ∧ V.cell? ⟨w.heap.size + 1, 0, none⟩ = some (.int .i64 l) ∧ V.cell? ⟨b, o + 4, none⟩ = some (.int .i64 k3) ∧ V.cell? ⟨b, o + 4 + 1, none⟩ = some (.int .i64 v3) ∧ V.cell? ⟨b, o + 4 + 2, none⟩ = some (.slice ads3 ds3.length cds3) ∧ V.cell? ⟨b, o + 4 + 3, none⟩ = some (.slice aks3 ks3.length cks3)))
              (first | assumption | exact HSD.out | exact HS.out _ hbS | go_keep)
              ((go_at_call 108; (with_reducible refine (HC.out _ ?_).mono ?_); (exact (‹Below (w.heap.size + 2) ((w.alloc (.cells #[.int .i64 7, .int .i64 v1, .slice ads1 ds1.length cds1, .slice (some ⟨b, o, none⟩) ks1.length cks1] 30)).alloc (.cells #[.int .i64 l] 2)) _ ∧ _›).1); rintro e V1 ⟨g, c, rfl, hge, hc0, hq1, ho9⟩; have hbS : Below (w.heap.size + 2) ((w.alloc (.cells #[.int .i64 7, .int .i64 v1, .slice ads1 ds1.length cds1, .slice (some ⟨b, o, none⟩) ks1.length cks1] 30)).alloc (.cells #[.int .i64 l] 2)) V1 := (‹Below (w.heap.size + 2) ((w.alloc (.cells #[.int .i64 7, .int .i64 v1, .slice ads1 ds1.length cds1, .slice (some ⟨b, o, none⟩) ks1.length cks1] 30)).alloc (.cells #[.int .i64 l] 2)) _ ∧ _›).1.trans (hq1.mono (by simp)); have HC0 := hid hc0; have HGE := hid hge; have HOX8 := hid ho9))
            clear s0 s1 s2 s3 s5 t0 t1 t2 t3 HS HSD
            have HBS := hid hbS
            clear hbS hq1 hbd hc0 hge ho9
            have hbd7 : Below (w.heap.size + 2) ((w.alloc (.cells #[.int .i64 7, .int .i64 v1, .slice ads1 ds1.length cds1, .slice (some ⟨b, o, none⟩) ks1.length cks1] 30)).alloc (.cells #[.int .i64 l] 2)) V1.drew := HBS.out.drew
            have e9 : (((w.alloc (.cells #[.int .i64 7, .int .i64 v1, .slice ads1 ds1.length cds1, .slice (some ⟨b, o, none⟩) ks1.length cks1] 30)).alloc (.cells #[.int .i64 l] 2)).drew).heap.size = w.heap.size + 2 := by simp
            have h9 := HOX8.out
            rw [e9] at h9
            have HOX9 := hid (show V1.drew.ownsRow (w.heap.size + 2) 2 1 (.slice (some ⟨g, 0, none⟩) n c) n ((x :: L).map (Value.int .i64)) from h9)
            clear e9 h9
            have hcp := fun W h1 h2 => impl_Compact g n c x L (w.heap.size + 2) W h1 HN0.out h2
            have hm := compact_test x L
            rw [HAE.out] at hm
            replace hm : decide ((1 : Int) < (Lib.compact (x :: L)).length) = false := hm
            generalize (Lib.compact (x :: L)).length = m at hcp hm
            have HCP := hid hcp
            clear hcp
            go_wp2_with fail
            refine wp_region_head 2 (by kernel_rfl) (by kernel_rfl) ?_
            simp only [List.take_succ_cons, List.take_zero, List.drop_succ_cons, List.drop_zero]
            go_wp2_with fail
            refine (HCP.out _ (by have h9 := hbd7.size; simpa using h9) HOX9.out).mono ?_
            rintro e V2 ⟨rfl, hcS7, hq2, -⟩
            have hbS7 : Below (w.heap.size + 2) ((w.alloc (.cells #[.int .i64 7, .int .i64 v1, .slice ads1 ds1.length cds1, .slice (some ⟨b, o, none⟩) ks1.length cks1] 30)).alloc (.cells #[.int .i64 l] 2)) V2 := hbd7.trans hq2
            have v5 := cell_regrown (HGS.out _ hbS7).out.2.2.2.2
            have v6 := cell_regrown hcS7
            have HBS7 := hid hbS7
            clear hbS7 hcS7 hq2 HCP
            go_wp2_with fail
            show QuietRest _ _ _ _ _ _
            unfold QuietRest
            repeat (go_big_quiet_step (fail))
            refine wpQuiet_nil ?_
            intro _ hw'
            obtain ⟨⟨dq, osq⟩, hw''⟩ := hw'
            subst hw''
            have HBW := hid (HBS7.out.trans ((below_regrown _ dq osq).mono (by have := HBS7.out.size; simpa using this)))
            clear v5 v6
            clear hbd7 HOX9
            go_wp2_with fail
            go_ret
            exact ⟨ret_bool HF.out.symm, HBE.out _ HBW.out⟩
  case neg =>
    have g4 : (k1 == 4) = false := by simp [h4k]
    have g7 : (k1 == 7) = false := by simp [h7k]
    have HF := hid (show Co.strat (Co.mk k1 v1 ds1 ks1) l = Co.strats ks1 (lvOf k1 l) by rw [HE2.out, nodeOk, if_neg h4k, if_neg h7k]; rfl)
    have HBW := hid (Below.refl (w.heap.size + 2) ((w.alloc (.cells #[.int .i64 k1, .int .i64 v1, .slice ads1 ds1.length cds1, .slice aks1 ks1.length cks1] 30)).alloc (.cells #[.int .i64 l] 2)))
    clear h4k h7k HE2 hr hg hN hM hbk hB hl0 hl8 HX0
    go_enter Try.func72, Try.ntmps72
    go_wp2_with fail
    refine (HKT.out _ HBW.out).mono ?_
    rintro e wk ⟨rfl, hbk9⟩
    have hbf := (HBE.out _ HBW.out).trans (hbk9.mono (HBE.out _ HBW.out).size)
    clear hbk9
    go_wp2_with fail
    go_ret
    exact ⟨ret_bool (by rw [HF.out]), hbf⟩
theorem sk_all : ∀ N, SkW N
  | 0 => fun _ _ _ _ _ _ _ _ _ _  h => absurd h (by omega)
  | N + 1 => sk_step N (sk_all N)
end Go.Proofs.Ytgbiefjokohkkaa
