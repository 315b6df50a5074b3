/- Walks: the nodes of a core, in the reference. -/
import Derived.Test.YtejdbmeoaekhcaaCoForm
import Derived.Lib.QuietBelow
import Derived.BigQuiet
namespace Go.Proofs.Ytejdbmeoaekhcaa
open Go.ChangeShapes Go.WideShapes Go.ChangeAt Go.RowKit Go.BigFrame
set_option linter.unusedVariables false

def CoNodesW (N : Nat) : Prop := ∀ (k1 : Int) (v1 : Int) (ds1 : List Int) (ks1 : List Co) (ads1 : Option Addr) (cds1 : Nat) (aks1 : Option Addr) (cks1 : Nat) (b1 o1 : Nat) (d l : Int) (w : World), Co.bulk (Co.mk k1 v1 ds1 ks1) < N → Co.bulk (Co.mk k1 v1 ds1 ks1) ≤ 1048576 → 0 ≤ d → d ≤ 1000 → 0 ≤ l → l ≤ 1000 → w.cell? ⟨b1, o1, none⟩ = some (.int .i64 k1) → w.cell? ⟨b1, o1 + 1, none⟩ = some (.int .i64 v1) → w.cell? ⟨b1, o1 + 2, none⟩ = some (.slice ads1 ds1.length cds1) → w.cell? ⟨b1, o1 + 3, none⟩ = some (.slice aks1 ks1.length cks1) → RdS w (Co.d (Co.mk k1 v1 ds1 ks1)) [.int .i64 k1, .int .i64 v1, .slice ads1 ds1.length cds1, .slice aks1 ks1.length cks1] →
  Calls Try.prog 78 #[.pointer (some ⟨b1, o1, none⟩), .int .i64 d, .int .i64 l] w fun e w' => e = .returned (.int .i64 (Co.nodes (Co.mk k1 v1 ds1 ks1) d l)) ∧ Below w.heap.size w w'

set_option maxHeartbeats 2000000 in
theorem l06Nodes_step (N : Nat) (ih : CoNodesW N) : CoNodesW (N + 1) := by
  intro k1 v1 ds1 ks1 ads1 cds1 aks1 cks1 b1 o1 d l w hN hM hd0 hd1 hl0 hl1 x0 x1 x2 x3 hr
  have hbk : Co.bulk (Co.mk k1 v1 ds1 ks1) = In.bulks ds1 + Co.bulks ks1 := rfl
  have hgd : Co.good (Co.mk k1 v1 ds1 ks1) = (okCo k1 v1 ds1 ks1.length && Co.goods ks1) := rfl
  have hdp : Co.dep (Co.mk k1 v1 ds1 ks1) = 1 + Co.deps ks1 := rfl
  have hct : Co.cnt (Co.mk k1 v1 ds1 ks1) = 1 + Co.cnts ks1 := rfl
  have HDP1 := hid (Co.dep_pos (Co.mk k1 v1 ds1 ks1))
  have HCT1 := hid (Co.cnt_pos (Co.mk k1 v1 ds1 ks1))
  obtain ⟨-, -, f_ds, f_ks⟩ := hr.fCo
  obtain ⟨_, _, e, i2, i3, i4⟩ := f_ds.eIn
  simp only [Value.slice.injEq, true_and] at e
  obtain ⟨rfl, rfl⟩ := e
  obtain ⟨_, _, e, h2, h3, h4⟩ := f_ks.eCo
  simp only [Value.slice.injEq, true_and] at e
  obtain ⟨rfl, rfl⟩ := e
  have hbd := In.bulks_length ds1
  have hbc := Co.bulks_length ks1
  have SH := hid (spec_l06Shape k1)
  have VL := hid (spec_l06Value k1 v1 b1 o1 w x0 x1)
  have hq : okCo k1 v1 ds1 ks1.length = (inR ks1.length (coN k1).1 (coN k1).2.1 && (inR ds1.length (coN k1).2.2.1 (coN k1).2.2.2 && (coVal k1 v1 && coData ds1))) := rfl
  generalize hs0 : (coN k1).1 = s0 at SH hq
  generalize hs1 : (coN k1).2.1 = s1 at SH hq
  generalize hs2 : (coN k1).2.2.1 = s2 at SH hq
  generalize hs3 : (coN k1).2.2.2 = s3 at SH hq
  have IH := hid ih
  have I4 := hid i4
  have H4 := hid h4
  have HK := hid hbk
  have HGD := hid hgd
  have HDP := hid hdp
  have HCT := hid hct
  have HQ := hid hq
  have X2 := hid x2
  have X3 := hid x3
  have XL := hid (World.block_lt_of_cell? _ _ x3)
  have HM := hid hM
  have HN := hid hN
  clear ih i4 h4 hbk f_ds f_ks hr hgd hdp hct hq hs0 hs1 hs2 hs3 hM hN x1
  by_cases hd : d < 1
  case pos =>
    rw [Co.nodes_no (by have := HDP1.out; omega)]
    go_enter Try.func78, Try.ntmps78
    go_wp2_with fail
    refine (SH.out _).mono ?_
    rintro e w2 ⟨rfl, rfl⟩
    go_wp2_with fail
    go_ret
    exact ⟨rfl, Below.refl _ _⟩
  case neg =>
    by_cases hl : l < 1
    case pos =>
      rw [Co.nodes_no (by have := HCT1.out; omega)]
      go_enter Try.func78, Try.ntmps78
      go_wp2_with fail
      refine (SH.out _).mono ?_
      rintro e w2 ⟨rfl, rfl⟩
      go_wp2_with fail
      go_ret
      exact ⟨rfl, Below.refl _ _⟩
    case neg =>
      by_cases t1 : (inR ks1.length s0 s1) = true
      case neg =>
        replace t1 := (Bool.not_eq_true _).mp t1
        have hno : ¬ Co.good (Co.mk k1 v1 ds1 ks1) = true := by rw [HGD.out, HQ.out, t1]; simp
        rw [Co.nodes_no (fun c => hno c.1)]
        clear hno
        have Tt1 := hid t1
        clear t1
        go_enter Try.func78, Try.ntmps78
        go_wp2_with fail
        refine (SH.out _).mono ?_
        rintro e w2 ⟨rfl, rfl⟩
        go_wp2_with fail
        refine (spec_In _ _ _ _).mono ?_
        rw [Tt1.out]
        rintro e w2 ⟨rfl, rfl⟩
        go_wp2_with fail
        go_ret
        exact ⟨rfl, Below.refl _ _⟩
      case pos =>
        by_cases t2 : (inR ds1.length s2 s3) = true
        case neg =>
          replace t2 := (Bool.not_eq_true _).mp t2
          have hno : ¬ Co.good (Co.mk k1 v1 ds1 ks1) = true := by rw [HGD.out, HQ.out, t2]; simp
          rw [Co.nodes_no (fun c => hno c.1)]
          clear hno
          have Tt1 := hid t1
          have Tt2 := hid t2
          clear t1 t2
          go_enter Try.func78, Try.ntmps78
          go_wp2_with fail
          refine (SH.out _).mono ?_
          rintro e w2 ⟨rfl, rfl⟩
          go_wp2_with fail
          refine (spec_In _ _ _ _).mono ?_
          rw [Tt1.out]
          rintro e w2 ⟨rfl, rfl⟩
          go_wp2_with fail
          refine (spec_In _ _ _ _).mono ?_
          rw [Tt2.out]
          rintro e w2 ⟨rfl, rfl⟩
          go_wp2_with fail
          go_ret
          exact ⟨rfl, Below.refl _ _⟩
        case pos =>
          by_cases t3 : (coVal k1 v1) = true
          case neg =>
            replace t3 := (Bool.not_eq_true _).mp t3
            have hno : ¬ Co.good (Co.mk k1 v1 ds1 ks1) = true := by rw [HGD.out, HQ.out, t3]; simp
            rw [Co.nodes_no (fun c => hno c.1)]
            clear hno
            have Tt1 := hid t1
            have Tt2 := hid t2
            have Tt3 := hid t3
            clear t1 t2 t3
            go_enter Try.func78, Try.ntmps78
            go_wp2_with fail
            refine (SH.out _).mono ?_
            rintro e w2 ⟨rfl, rfl⟩
            go_wp2_with fail
            refine (spec_In _ _ _ _).mono ?_
            rw [Tt1.out]
            rintro e w2 ⟨rfl, rfl⟩
            go_wp2_with fail
            refine (spec_In _ _ _ _).mono ?_
            rw [Tt2.out]
            rintro e w2 ⟨rfl, rfl⟩
            go_wp2_with fail
            refine VL.out.mono ?_
            rw [Tt3.out]
            rintro e w2 ⟨rfl, rfl⟩
            go_wp2_with fail
            go_ret
            exact ⟨rfl, Below.refl _ _⟩
          case pos =>
            have Tt1 := hid t1
            have Tt2 := hid t2
            have Tt3 := hid t3
            clear t1 t2 t3
            go_enter Try.func78, Try.ntmps78
            go_wp2_with fail
            refine (SH.out _).mono ?_
            rintro e w2 ⟨rfl, rfl⟩
            go_wp2_with fail
            refine (spec_In _ _ _ _).mono ?_
            rw [Tt1.out]
            rintro e w2 ⟨rfl, rfl⟩
            go_wp2_with fail
            refine (spec_In _ _ _ _).mono ?_
            rw [Tt2.out]
            rintro e w2 ⟨rfl, rfl⟩
            go_wp2_with fail
            refine VL.out.mono ?_
            rw [Tt3.out]
            rintro e w2 ⟨rfl, rfl⟩
            go_wp2_with fail
            go_loopw [11] (fun i wr => ∃ (j : Nat), j ≤ ds1.length ∧ i = .int .i64 j ∧ Hid (∀ (i : Nat) x, i < j → ds1[i]? = some x → inR x 0 23 = true) ∧ w = wr) (fun i _ => ds1.length - (intOf i).toNat)
            case atStart => exact ⟨0, by omega, rfl, fun i t hi => absurd hi (by omega), rfl⟩
            case round =>
              obtain ⟨j, hj, rfl, HJ, rfl⟩ := hrel
              by_cases hlt : j < ds1.length
              case pos =>
                obtain ⟨b, o, rfl, hbl, hall⟩ := I4.out (by omega)
                obtain ⟨x, hx⟩ : ∃ x, ds1[j]? = some x := ⟨_, List.getElem?_eq_getElem hlt⟩
                obtain ⟨q0, hfc⟩ := hall j x hx
                have HT := hid hx
                clear hall I4 hx
                by_cases hi : inR x 0 23 = true
                case neg =>
                  replace hi := (Bool.not_eq_true _).mp hi
                  have hno : ¬ Co.good (Co.mk k1 v1 ds1 ks1) = true := by rw [HGD.out, HQ.out, coData_no _ j x HT.out hi]; simp
                  have HNO := hid hno
                  have HI := hid hi
                  clear hno hi
                  go_wp2_with fail
                  refine (spec_In _ _ _ _).mono ?_
                  rw [HI.out]
                  rintro e w2 ⟨rfl, rfl⟩
                  go_wp2_with fail
                  go_ret
                  exact ⟨ret_int (Co.nodes_no (fun c => HNO.out c.1)).symm, Below.refl _ _⟩
                case pos =>
                  have HI := hid hi
                  clear hi
                  go_wp2_with fail
                  refine (spec_In _ _ _ _).mono ?_
                  rw [HI.out]
                  rintro e w2 ⟨rfl, rfl⟩
                  go_wp2_with fail
                  go_roundw
                  case rel =>
                    refine ⟨j + 1, by omega, by go_num, fun i t hi hti => ?_, by first | rfl | trivial⟩
                    rcases Nat.lt_succ_iff_lt_or_eq.1 hi with hi | rfl
                    · exact HJ.out i t hi hti
                    · obtain rfl := Option.some.inj (hti.symm.trans HT.out)
                      exact HI.out
                  case measure => simp [intOf]; omega
              case neg =>
                have hok : okCo k1 v1 ds1 ks1.length = true := by rw [HQ.out, Tt1.out, Tt2.out, Tt3.out, coData_yes ds1 fun i x hx => HJ.out i x (by have := (List.getElem?_eq_some_iff.1 hx).1; omega) hx]; rfl
                have HOK := hid hok
                clear hok
                go_wp2_with fail
                go_loopw [12, 13, 14] (fun n i _ wr => ∃ (j : Nat), j ≤ ks1.length ∧ i = .int .i64 j ∧ n = .int .i64 (1 + Co.cnts (ks1.take j) : Nat) ∧ Hid (∀ (i : Nat) t, i < j → ks1[i]? = some t → Co.good t = true ∧ (Co.dep t : Int) ≤ d - 1) ∧ ((1 + Co.cnts (ks1.take j) : Nat) : Int) ≤ l ∧ Below w.heap.size w wr) (fun _ i _ _ => ks1.length - (intOf i).toNat)
                case atStart => exact ⟨0, by omega, rfl, by simp [Co.cnts], fun i t hi => absurd hi (by omega), by simp [Co.cnts]; omega, Below.refl _ _⟩
                case round =>
                  obtain ⟨j, hj, rfl, rfl, HJ2, hle, hb⟩ := hrel
                  have z3 := (hb.cell (p := ⟨b1, o1 + 3, none⟩) XL.out).trans X3.out
                  by_cases hlt : j < ks1.length
                  case pos =>
                    obtain ⟨b, o, rfl, hbl, hall⟩ := H4.out (by omega)
                    obtain ⟨t, ht⟩ : ∃ t, ks1[j]? = some t := ⟨_, List.getElem?_eq_getElem hlt⟩
                    obtain ⟨k3, v3, ds3, ks3⟩ := t
                    obtain ⟨ads3, cds3, aks3, cks3, q0, q1, q2, q3, hrk⟩ := hall j k3 v3 ds3 ks3 ht
                    clear hall H4
                    have hbg := Co.bulk_get ks1 j _ ht
                    have hcg := Co.cnts_get ks1 j _ ht
                    have hcx := Co.cnts_take ks1 j _ ht
                    have hdj := Co.deps_get ks1 j _ ht
                    have hc := IH.out k3 v3 ds3 ks3 ads3 cds3 aks3 cks3 b (o + j * 4) (d - 1) (l - (1 + Co.cnts (ks1.take j) : Nat)) wr (by have := HK.out; have := HN.out; omega) (by have := HK.out; have := HM.out; omega) (by omega) (by omega) (by omega) (by omega)
                      ((hb.cell (p := ⟨b, o + j * 4, none⟩) hbl).trans q0) ((hb.cell (p := ⟨b, o + j * 4 + 1, none⟩) hbl).trans q1) ((hb.cell (p := ⟨b, o + j * 4 + 2, none⟩) hbl).trans q2) ((hb.cell (p := ⟨b, o + j * 4 + 3, none⟩) hbl).trans q3) (hrk.below hb)
                    have HT := hid ht
                    by_cases hg : Co.good (.mk k3 v3 ds3 ks3) = true ∧ (Co.dep (.mk k3 v3 ds3 ks3) : Int) ≤ d - 1 ∧ (Co.cnt (.mk k3 v3 ds3 ks3) : Int) ≤ l - (1 + Co.cnts (ks1.take j) : Nat)
                    case pos =>
                      rw [Co.nodes_yes hg] at hc
                      have hle' := hg.2.2
                      have hcn : (0 : Int) ≤ (Co.cnt (.mk k3 v3 ds3 ks3) : Int) := by omega
                      have HC := hid hc
                      have HG := hid hg
                      have HCX := hid hcx
                      clear ht hrk q0 q1 q2 q3 hc hg hcx hdj
                      go_wp2_with fail
                      refine HC.out.mono ?_
                      clear HC
                      rintro e w1 ⟨rfl, hb1⟩
                      have hbw := hb.trans (hb1.mono hb.size)
                      clear hb1 z3
                      go_wp2_with fail
                      go_roundw
                      case rel =>
                        refine ⟨j + 1, by omega, by go_num, congrArg (Value.int .i64) ?_, fun i t hi hti => ?_, ?_, hbw⟩
                        · have := HCX.out; omega
                        · rcases Nat.lt_succ_iff_lt_or_eq.1 hi with hi | rfl
                          · exact HJ2.out i t hi hti
                          · obtain rfl := Option.some.inj (hti.symm.trans HT.out)
                            exact ⟨HG.out.1, HG.out.2.1⟩
                        · have := HCX.out; omega
                      case measure => simp [intOf]; omega
                    case neg =>
                      rw [Co.nodes_no hg] at hc
                      have HC := hid hc
                      have HG := hid hg
                      have HDJ := hid hdj
                      have HCG := hid hcg
                      clear ht hrk q0 q1 q2 q3 hc hg hcx hdj
                      go_wp2_with fail
                      refine HC.out.mono ?_
                      clear HC
                      rintro e w1 ⟨rfl, hb1⟩
                      have hbw := hb.trans (hb1.mono hb.size)
                      clear hb1 z3
                      go_wp2_with fail
                      go_ret
                      refine ⟨ret_int ?_, hbw⟩
                      rw [Co.nodes_no]
                      rintro ⟨y1, y2, y3⟩
                      rw [HGD.out, Bool.and_eq_true] at y1
                      rw [HDP.out] at y2
                      rw [HCT.out] at y3
                      exact HG.out ⟨Co.goods_get ks1 j _ y1.2 HT.out, by have := HDJ.out; omega, by have := HCG.out; omega⟩
                  case neg =>
                    obtain rfl : j = ks1.length := by omega
                    rw [List.take_length] at hle ⊢
                    go_wp2_with fail
                    go_ret
                    refine ⟨ret_int ?_, hb⟩
                    have y1 : Co.goods ks1 = true := Co.goods_yes ks1 fun i t hti => (HJ2.out i t (by have := (List.getElem?_eq_some_iff.1 hti).1; omega) hti).1
                    have y2 : (Co.deps ks1 : Int) ≤ d - 1 := by
                      have := Co.deps_all ks1 (d - 1).toNat fun i t hti => by
                        have := (HJ2.out i t (by have := (List.getElem?_eq_some_iff.1 hti).1; omega) hti).2
                        omega
                      omega
                    rw [Co.nodes_yes ⟨by rw [HGD.out, HOK.out, y1]; rfl, by rw [HDP.out]; omega, by rw [HCT.out]; omega⟩, HCT.out]

theorem l06Nodes_all : ∀ N, CoNodesW N
  | 0 => fun _ _ _ _ _ _ _ _ _ _ _ _ _ h => absurd h (by omega)
  | N + 1 => l06Nodes_step N (l06Nodes_all N)
theorem spec_l06Nodes (k1 : Int) (v1 : Int) (ds1 : List Int) (ks1 : List Co) (ads1 : Option Addr) (cds1 : Nat) (aks1 : Option Addr) (cks1 : Nat) (b1 o1 : Nat) (d l : Int) (w : World) (z0 : Co.bulk (Co.mk k1 v1 ds1 ks1) ≤ 1048576) (z1 : 0 ≤ d) (z2 : d ≤ 1000) (z3 : 0 ≤ l) (z4 : l ≤ 1000) (z5 : w.cell? ⟨b1, o1, none⟩ = some (.int .i64 k1)) (z6 : w.cell? ⟨b1, o1 + 1, none⟩ = some (.int .i64 v1)) (z7 : w.cell? ⟨b1, o1 + 2, none⟩ = some (.slice ads1 ds1.length cds1)) (z8 : w.cell? ⟨b1, o1 + 3, none⟩ = some (.slice aks1 ks1.length cks1)) (z9 : RdS w (Co.d (Co.mk k1 v1 ds1 ks1)) [.int .i64 k1, .int .i64 v1, .slice ads1 ds1.length cds1, .slice aks1 ks1.length cks1]) :
    Calls Try.prog 78 #[.pointer (some ⟨b1, o1, none⟩), .int .i64 d, .int .i64 l] w fun e w' => e = .returned (.int .i64 (Co.nodes (Co.mk k1 v1 ds1 ks1) d l)) ∧ Below w.heap.size w w' :=
  l06Nodes_all (Co.bulk (Co.mk k1 v1 ds1 ks1) + 1) k1 v1 ds1 ks1 ads1 cds1 aks1 cks1 b1 o1 d l w (by omega) z0 z1 z2 z3 z4 z5 z6 z7 z8 z9
end Go.Proofs.Ytejdbmeoaekhcaa
