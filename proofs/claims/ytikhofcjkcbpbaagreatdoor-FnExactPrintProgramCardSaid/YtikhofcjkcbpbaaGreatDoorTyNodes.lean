/- Walks: the nodes of a type, in the reference. -/
import Derived.Test.YtikhofcjkcbpbaaGreatDoorTyPlain
import Derived.Test.YtikhofcjkcbpbaaGreatDoorIn
import Derived.Lib.QuietBelow
namespace Go.Proofs.YtikhofcjkcbpbaaGreatDoor
open Go.ChangeShapes Go.WideShapes Go.ChangeAt Go.RowKit
set_option linter.unusedVariables false

theorem Ty.nodes_bad {t : Ty} {d : Int} (h : Ty.good t = false) : Ty.nodes t d = -1 := by simp [Ty.nodes, h]
theorem Ty.nodes_deep {t : Ty} {d : Int} (h : d < Ty.dep t) : Ty.nodes t d = -1 := by unfold Ty.nodes; rw [if_neg]; omega
theorem Ty.nodes_yes {t : Ty} {d : Int} (h : Ty.good t = true) (h' : (Ty.dep t : Int) ≤ d) : Ty.nodes t d = Ty.cnt t := by unfold Ty.nodes; rw [if_pos ⟨h, h'⟩]
theorem okNode_bad {k : Int} {n : ByteArray} {ks : List Ty} {d : Int} (h : okNode k n ks.length = false) : Ty.nodes (.mk k n ks) d = -1 := Ty.nodes_bad (by simp [Ty.good, h])

def NodesW (N : Nat) : Prop := ∀ (k : Int) (n : ByteArray) (ks : List Ty) (aks : Option Addr) (cks : Nat) (d : Int) (w : World), Ty.bulk (.mk k n ks) < N → Ty.bulk (.mk k n ks) ≤ 1048576 → 0 ≤ d → d ≤ 100 → RdS w (Ty.d (.mk k n ks)) [.int .i64 k, .string n, .slice aks ks.length cks] →
  Calls Tryz.prog 85 #[.agg #[.int .i64 k, .string n, .slice aks ks.length cks], .int .i64 d] w fun e w' => e = .returned (.int .i64 (Ty.nodes (.mk k n ks) d)) ∧ Below w.heap.size w w'

set_option maxHeartbeats 4000000 in
theorem l02Nodes_step (N : Nat) (ih : NodesW N) : NodesW (N + 1) := by
  intro k n ks aks cks d w hN hM h0 h1 hr
  have hbk : Ty.bulk (.mk k n ks) = n.size + Ty.bulks ks := rfl
  obtain ⟨hk, hn, hks⟩ := hr.fTy
  obtain ⟨_, _, e, h2, h3, h4⟩ := hks.eTy
  simp only [Value.slice.injEq, true_and] at e
  obtain ⟨rfl, rfl⟩ := e
  have hcl := Ty.cnts_le ks
  have IH := hid ih
  have H4 := hid h4
  have HK := hid hbk
  have HB0 := hid ((Below.refl w.heap.size w).alloc (Nat.le_refl _) (.cells #[.int .i64 k, .string n, .slice aks ks.length cks] 33))
  have HX0 := hid ((Boxes.nil w).alloc #[.int .i64 k, .string n, .slice aks ks.length cks] 33 (0, 0))
  clear ih hr h4 hks hbk
  by_cases hd : d < 1
  · have := Ty.dep_pos (.mk k n ks)
    rw [Ty.nodes_deep (by omega)]
    go_enter Tryz.func85, Tryz.ntmps85
    go_wp2_with fail
    go_ret
    exact ⟨rfl, HB0.out⟩
  have e0 : n.toList.isEmpty = true ∨ n.toList.isEmpty = false := by cases n.toList.isEmpty <;> simp
  cases hok : okNode k n ks.length
  · have HOK := hid (okNode_bad (d := d) hok)
    by_cases k1 : k = 1
    · subst k1
      have hx : ¬ (n.toList.isEmpty = true ∧ ks.length = 0) := by intro ⟨a, b⟩; simp [okNode, a, b] at hok
      clear hok
      by_cases hl : ks.length = 0
      · rcases e0 with he | he
        · exact absurd ⟨he, hl⟩ hx
        · have hlb : ((ks.length : Int) != 0) = false := by simp [hl]
          clear hx hl
          go_enter Tryz.func85, Tryz.ntmps85
          go_wp2_with fail
          go_ret
          exact ⟨ret_int HOK.out.symm, HB0.out⟩
      · clear hx
        go_enter Tryz.func85, Tryz.ntmps85
        go_wp2_with fail
        go_ret
        exact ⟨ret_int HOK.out.symm, HB0.out⟩
    by_cases k2 : k = 2
    · subst k2
      have hx : ¬ (isUpperB n = true ∧ (n.toList == [73, 110, 116]) = false ∧ ks.length = 0) := by intro ⟨a, b, c⟩; simp [okNode, a, b, c] at hok
      clear hok
      cases hup : isUpperB n
      · clear hx
        go_enter Tryz.func85, Tryz.ntmps85
        go_wp2_with fail
        refine (spec_IsUpper _ _).mono ?_
        rw [hup]
        rintro e w1 ⟨rfl, hb⟩
        go_wp2_with fail
        go_ret
        exact ⟨ret_int HOK.out.symm, HB0.out.trans (hb.mono (by simp))⟩
      · cases hi : (n.toList == [73, 110, 116])
        · have hl : ks.length ≠ 0 := fun c => hx ⟨hup, hi, c⟩
          clear hx
          go_enter Tryz.func85, Tryz.ntmps85
          go_wp2_with fail
          refine (spec_IsUpper _ _).mono ?_
          rw [hup]
          rintro e w1 ⟨rfl, hb⟩
          have g1 := (HX0.out.below hb).at 0 1 rfl rfl
          have g2 := (HX0.out.below hb).at 0 2 rfl rfl
          have hbw := HB0.out.trans (hb.mono (by simp))
          clear hb
          go_wp2_with fail
          go_ret
          exact ⟨ret_int HOK.out.symm, hbw⟩
        · clear hx
          go_enter Tryz.func85, Tryz.ntmps85
          go_wp2_with fail
          refine (spec_IsUpper _ _).mono ?_
          rw [hup]
          rintro e w1 ⟨rfl, hb⟩
          have g1 := (HX0.out.below hb).at 0 1 rfl rfl
          have hbw := HB0.out.trans (hb.mono (by simp))
          clear hb
          go_wp2_with fail
          go_ret
          exact ⟨ret_int HOK.out.symm, hbw⟩
    by_cases k3 : k = 3
    · subst k3
      have hx : ¬ (n.toList.isEmpty = true ∧ ks.length = 2) := by intro ⟨a, b⟩; simp [okNode, a, b] at hok
      clear hok
      by_cases hl : ks.length = 2
      · rcases e0 with he | he
        · exact absurd ⟨he, hl⟩ hx
        · have hlb : ((ks.length : Int) != 2) = false := by simp [hl]
          clear hx hl
          go_enter Tryz.func85, Tryz.ntmps85
          go_wp2_with fail
          go_ret
          exact ⟨ret_int HOK.out.symm, HB0.out⟩
      · clear hx
        go_enter Tryz.func85, Tryz.ntmps85
        go_wp2_with fail
        go_ret
        exact ⟨ret_int HOK.out.symm, HB0.out⟩
    by_cases k4 : k = 4
    · subst k4
      have hx : ¬ (n.toList.isEmpty = true ∧ ks.length = 1) := by intro ⟨a, b⟩; simp [okNode, a, b] at hok
      clear hok
      by_cases hl : ks.length = 1
      · rcases e0 with he | he
        · exact absurd ⟨he, hl⟩ hx
        · have hlb : ((ks.length : Int) != 1) = false := by simp [hl]
          clear hx hl
          go_enter Tryz.func85, Tryz.ntmps85
          go_wp2_with fail
          go_ret
          exact ⟨ret_int HOK.out.symm, HB0.out⟩
      · clear hx
        go_enter Tryz.func85, Tryz.ntmps85
        go_wp2_with fail
        go_ret
        exact ⟨ret_int HOK.out.symm, HB0.out⟩
    have g1 : (k == 1) = false := by simp [k1]
    have g2 : (k == 2) = false := by simp [k2]
    have g3 : (k == 3) = false := by simp [k3]
    have g4 : (k == 4) = false := by simp [k4]
    clear k1 k2 k3 k4 hok
    go_enter Tryz.func85, Tryz.ntmps85
    go_wp2_with fail
    go_ret
    exact ⟨ret_int HOK.out.symm, HB0.out⟩
  · have hgd : Ty.good (.mk k n ks) = Ty.goods ks := by simp [Ty.good, hok]
    have hdp : Ty.dep (.mk k n ks) = 1 + Ty.deps ks := rfl
    have hct : Ty.cnt (.mk k n ks) = 1 + Ty.cnts ks := rfl
    have HGD := hid hgd
    have HDP := hid hdp
    have HCT := hid hct
    have hcases : (k = 1 ∧ n.toList.isEmpty = true ∧ ks.length = 0) ∨ (k = 2 ∧ isUpperB n = true ∧ (n.toList == [73, 110, 116]) = false ∧ ks.length = 0) ∨ (k = 3 ∧ n.toList.isEmpty = true ∧ ks.length = 2) ∨ (k = 4 ∧ n.toList.isEmpty = true ∧ ks.length = 1) := by
      unfold okNode at hok
      split at hok
      · simp at hok; simp_all
      · split at hok
        · simp at hok; simp_all
        · split at hok
          · simp at hok; simp_all
          · split at hok
            · simp at hok; simp_all
            · cases hok
    rcases hcases with ⟨hk', he, hl⟩ | ⟨hk', hup, hi, hl⟩ | ⟨hk', he, hl⟩ | ⟨hk', he, hl⟩
    · subst hk'
      have hlb : ((ks.length : Int) != 0) = false := by simp [hl]
      have hlh := hid hl
      clear hl hgd hdp hct hok
      go_enter Tryz.func85, Tryz.ntmps85
      go_wp2_with fail
      go_loopw [6, 7, 8] (fun s i _ wr => ∃ (j : Nat), j ≤ ks.length ∧ i = .int .i64 j ∧ s = .int .i64 (1 + Ty.cnts (ks.take j) : Nat) ∧ Hid (∀ (i : Nat) t, i < j → ks[i]? = some t → Ty.good t = true ∧ (Ty.dep t : Int) ≤ d - 1) ∧
        Below (w.heap.size + 1) (w.alloc (.cells #[.int .i64 1, .string n, .slice aks ks.length cks] 33)) wr) (fun _ i _ _ => ks.length - (intOf i).toNat)
      case atStart => exact ⟨0, by omega, rfl, by simp [Ty.cnts], fun i t hi => absurd hi (by omega), Below.refl _ _⟩
      case round =>
        obtain ⟨j, hj, rfl, rfl, HJ, hb0⟩ := hrel
        have hb : Below w.heap.size w wr := HB0.out.trans (hb0.mono (by omega))
        have p2 : wr.cell? ⟨w.heap.size, 2, none⟩ = some (.slice aks ks.length cks) := (hb0.cell (p := ⟨w.heap.size, 2, none⟩) (by simp)).trans (by simp)
        by_cases hlt : j < ks.length
        · obtain ⟨b, o, rfl, hbl, hall⟩ := H4.out (by omega)
          obtain ⟨t, ht⟩ : ∃ t, ks[j]? = some t := ⟨_, List.getElem?_eq_getElem hlt⟩
          obtain ⟨k1, n1, ks1⟩ := t
          obtain ⟨a1, c1, q0, q1, q2, hrk⟩ := hall j k1 n1 ks1 ht
          clear hall H4
          have d0 := (hb.cell (p := ⟨b, o + j * 3, none⟩) hbl).trans q0
          have d1 := (hb.cell (p := ⟨b, o + j * 3 + 1, none⟩) hbl).trans q1
          have d2 := (hb.cell (p := ⟨b, o + j * 3 + 2, none⟩) hbl).trans q2
          have hbg := Ty.bulk_get ks j _ ht
          have hc := IH.out k1 n1 ks1 a1 c1 (d - 1) wr (by have := HK.out; omega) (by have := HK.out; omega) (by omega) (by omega) (hrk.below hb)
          have hcx := Ty.cnts_take ks j _ ht
          have hle := Ty.cnts_take_le ks (j + 1)
          have hdj := Ty.deps_get ks j _ ht
          have HT := hid ht
          by_cases hg : Ty.good (.mk k1 n1 ks1) = true ∧ (Ty.dep (.mk k1 n1 ks1) : Int) ≤ d - 1
          · rw [Ty.nodes_yes hg.1 hg.2] at hc
            have hct' : Ty.cnts (ks.take j) + Ty.cnt (.mk k1 n1 ks1) ≤ 1048576 := by have := HK.out; omega
            have HC := hid hc
            have HG := hid hg
            have HCX := hid hcx
            clear ht hrk q0 q1 q2 hc hg hcx hdj
            go_wp2_with fail
            refine HC.out.mono ?_
            clear HC
            rintro e w1 ⟨rfl, hb1⟩
            have hbw := hb0.trans (hb1.mono (by have := hb0.size; simp at this; omega))
            clear hb1
            go_wp2_with fail
            go_roundw
            case rel =>
              refine ⟨j + 1, by omega, by go_num, congrArg (Value.int .i64) ?_, fun i t hi hti => ?_, hbw⟩
              · have := HCX.out; omega
              · rcases Nat.lt_succ_iff_lt_or_eq.1 hi with hi | rfl
                · exact HJ.out i t hi hti
                · obtain rfl := Option.some.inj (hti.symm.trans HT.out)
                  exact HG.out
            case measure => simp [intOf]; omega
          · have hn1 : Ty.nodes (.mk k1 n1 ks1) (d - 1) = -1 := by unfold Ty.nodes; rw [if_neg hg]
            rw [hn1] at hc
            have HC := hid hc
            have HG := hid hg
            have HDJ := hid hdj
            clear ht hrk q0 q1 q2 hc hg hcx hdj hn1
            go_wp2_with fail
            refine HC.out.mono ?_
            clear HC
            rintro e w1 ⟨rfl, hb1⟩
            have hbw := hb.trans (hb1.mono hb.size)
            clear hb1
            go_wp2_with fail
            go_ret
            refine ⟨ret_int ?_, hbw⟩
            unfold Ty.nodes
            rw [if_neg]
            rintro ⟨y1, y2⟩
            rw [HGD.out] at y1
            rw [HDP.out] at y2
            exact HG.out ⟨Ty.goods_get ks j _ y1 HT.out, by have := HDJ.out; omega⟩
        · obtain rfl : j = ks.length := by omega
          rw [List.take_length]
          go_wp2_with fail
          go_ret
          refine ⟨ret_int ?_, hb⟩
          have y1 : Ty.goods ks = true := Ty.goods_yes ks fun i t hti => (HJ.out i t (by have := (List.getElem?_eq_some_iff.1 hti).1; omega) hti).1
          have y2 : (Ty.deps ks : Int) ≤ d - 1 := by
            have := Ty.deps_all ks (d - 1).toNat fun i t hti => by
              have := (HJ.out i t (by have := (List.getElem?_eq_some_iff.1 hti).1; omega) hti).2
              omega
            omega
          rw [Ty.nodes_yes (by rw [HGD.out]; exact y1) (by rw [HDP.out]; omega), HCT.out]
    · subst hk'
      have hlb : ((ks.length : Int) != 0) = false := by simp [hl]
      have hlh := hid hl
      clear hl hgd hdp hct hok
      go_enter Tryz.func85, Tryz.ntmps85
      go_wp2_with fail
      refine (spec_IsUpper _ _).mono ?_
      rw [hup]
      rintro e w1 ⟨rfl, hb⟩
      have g0 := (HX0.out.below hb).at 0 0 rfl rfl
      have g1 := (HX0.out.below hb).at 0 1 rfl rfl
      have g2 := (HX0.out.below hb).at 0 2 rfl rfl
      have hbx : Below (w.heap.size + 1) (w.alloc (.cells #[.int .i64 2, .string n, .slice aks ks.length cks] 33)) w1 := hb.mono (by simp)
      clear hb
      go_wp2_with fail
      clear g0 g1 g2
      go_loopw [6, 7, 8] (fun s i _ wr => ∃ (j : Nat), j ≤ ks.length ∧ i = .int .i64 j ∧ s = .int .i64 (1 + Ty.cnts (ks.take j) : Nat) ∧ Hid (∀ (i : Nat) t, i < j → ks[i]? = some t → Ty.good t = true ∧ (Ty.dep t : Int) ≤ d - 1) ∧
        Below (w.heap.size + 1) (w.alloc (.cells #[.int .i64 2, .string n, .slice aks ks.length cks] 33)) wr) (fun _ i _ _ => ks.length - (intOf i).toNat)
      case atStart => exact ⟨0, by omega, rfl, by simp [Ty.cnts], fun i t hi => absurd hi (by omega), hbx⟩
      case round =>
        obtain ⟨j, hj, rfl, rfl, HJ, hb0⟩ := hrel
        have hb : Below w.heap.size w wr := HB0.out.trans (hb0.mono (by omega))
        have p2 : wr.cell? ⟨w.heap.size, 2, none⟩ = some (.slice aks ks.length cks) := (hb0.cell (p := ⟨w.heap.size, 2, none⟩) (by simp)).trans (by simp)
        by_cases hlt : j < ks.length
        · obtain ⟨b, o, rfl, hbl, hall⟩ := H4.out (by omega)
          obtain ⟨t, ht⟩ : ∃ t, ks[j]? = some t := ⟨_, List.getElem?_eq_getElem hlt⟩
          obtain ⟨k1, n1, ks1⟩ := t
          obtain ⟨a1, c1, q0, q1, q2, hrk⟩ := hall j k1 n1 ks1 ht
          clear hall H4
          have d0 := (hb.cell (p := ⟨b, o + j * 3, none⟩) hbl).trans q0
          have d1 := (hb.cell (p := ⟨b, o + j * 3 + 1, none⟩) hbl).trans q1
          have d2 := (hb.cell (p := ⟨b, o + j * 3 + 2, none⟩) hbl).trans q2
          have hbg := Ty.bulk_get ks j _ ht
          have hc := IH.out k1 n1 ks1 a1 c1 (d - 1) wr (by have := HK.out; omega) (by have := HK.out; omega) (by omega) (by omega) (hrk.below hb)
          have hcx := Ty.cnts_take ks j _ ht
          have hle := Ty.cnts_take_le ks (j + 1)
          have hdj := Ty.deps_get ks j _ ht
          have HT := hid ht
          by_cases hg : Ty.good (.mk k1 n1 ks1) = true ∧ (Ty.dep (.mk k1 n1 ks1) : Int) ≤ d - 1
          · rw [Ty.nodes_yes hg.1 hg.2] at hc
            have hct' : Ty.cnts (ks.take j) + Ty.cnt (.mk k1 n1 ks1) ≤ 1048576 := by have := HK.out; omega
            have HC := hid hc
            have HG := hid hg
            have HCX := hid hcx
            clear ht hrk q0 q1 q2 hc hg hcx hdj
            go_wp2_with fail
            refine HC.out.mono ?_
            clear HC
            rintro e w1 ⟨rfl, hb1⟩
            have hbw := hb0.trans (hb1.mono (by have := hb0.size; simp at this; omega))
            clear hb1
            go_wp2_with fail
            go_roundw
            case rel =>
              refine ⟨j + 1, by omega, by go_num, congrArg (Value.int .i64) ?_, fun i t hi hti => ?_, hbw⟩
              · have := HCX.out; omega
              · rcases Nat.lt_succ_iff_lt_or_eq.1 hi with hi | rfl
                · exact HJ.out i t hi hti
                · obtain rfl := Option.some.inj (hti.symm.trans HT.out)
                  exact HG.out
            case measure => simp [intOf]; omega
          · have hn1 : Ty.nodes (.mk k1 n1 ks1) (d - 1) = -1 := by unfold Ty.nodes; rw [if_neg hg]
            rw [hn1] at hc
            have HC := hid hc
            have HG := hid hg
            have HDJ := hid hdj
            clear ht hrk q0 q1 q2 hc hg hcx hdj hn1
            go_wp2_with fail
            refine HC.out.mono ?_
            clear HC
            rintro e w1 ⟨rfl, hb1⟩
            have hbw := hb.trans (hb1.mono hb.size)
            clear hb1
            go_wp2_with fail
            go_ret
            refine ⟨ret_int ?_, hbw⟩
            unfold Ty.nodes
            rw [if_neg]
            rintro ⟨y1, y2⟩
            rw [HGD.out] at y1
            rw [HDP.out] at y2
            exact HG.out ⟨Ty.goods_get ks j _ y1 HT.out, by have := HDJ.out; omega⟩
        · obtain rfl : j = ks.length := by omega
          rw [List.take_length]
          go_wp2_with fail
          go_ret
          refine ⟨ret_int ?_, hb⟩
          have y1 : Ty.goods ks = true := Ty.goods_yes ks fun i t hti => (HJ.out i t (by have := (List.getElem?_eq_some_iff.1 hti).1; omega) hti).1
          have y2 : (Ty.deps ks : Int) ≤ d - 1 := by
            have := Ty.deps_all ks (d - 1).toNat fun i t hti => by
              have := (HJ.out i t (by have := (List.getElem?_eq_some_iff.1 hti).1; omega) hti).2
              omega
            omega
          rw [Ty.nodes_yes (by rw [HGD.out]; exact y1) (by rw [HDP.out]; omega), HCT.out]
    · subst hk'
      have hlb : ((ks.length : Int) != 2) = false := by simp [hl]
      have hlh := hid hl
      clear hl hgd hdp hct hok
      go_enter Tryz.func85, Tryz.ntmps85
      go_wp2_with fail
      go_loopw [6, 7, 8] (fun s i _ wr => ∃ (j : Nat), j ≤ ks.length ∧ i = .int .i64 j ∧ s = .int .i64 (1 + Ty.cnts (ks.take j) : Nat) ∧ Hid (∀ (i : Nat) t, i < j → ks[i]? = some t → Ty.good t = true ∧ (Ty.dep t : Int) ≤ d - 1) ∧
        Below (w.heap.size + 1) (w.alloc (.cells #[.int .i64 3, .string n, .slice aks ks.length cks] 33)) wr) (fun _ i _ _ => ks.length - (intOf i).toNat)
      case atStart => exact ⟨0, by omega, rfl, by simp [Ty.cnts], fun i t hi => absurd hi (by omega), Below.refl _ _⟩
      case round =>
        obtain ⟨j, hj, rfl, rfl, HJ, hb0⟩ := hrel
        have hb : Below w.heap.size w wr := HB0.out.trans (hb0.mono (by omega))
        have p2 : wr.cell? ⟨w.heap.size, 2, none⟩ = some (.slice aks ks.length cks) := (hb0.cell (p := ⟨w.heap.size, 2, none⟩) (by simp)).trans (by simp)
        by_cases hlt : j < ks.length
        · obtain ⟨b, o, rfl, hbl, hall⟩ := H4.out (by omega)
          obtain ⟨t, ht⟩ : ∃ t, ks[j]? = some t := ⟨_, List.getElem?_eq_getElem hlt⟩
          obtain ⟨k1, n1, ks1⟩ := t
          obtain ⟨a1, c1, q0, q1, q2, hrk⟩ := hall j k1 n1 ks1 ht
          clear hall H4
          have d0 := (hb.cell (p := ⟨b, o + j * 3, none⟩) hbl).trans q0
          have d1 := (hb.cell (p := ⟨b, o + j * 3 + 1, none⟩) hbl).trans q1
          have d2 := (hb.cell (p := ⟨b, o + j * 3 + 2, none⟩) hbl).trans q2
          have hbg := Ty.bulk_get ks j _ ht
          have hc := IH.out k1 n1 ks1 a1 c1 (d - 1) wr (by have := HK.out; omega) (by have := HK.out; omega) (by omega) (by omega) (hrk.below hb)
          have hcx := Ty.cnts_take ks j _ ht
          have hle := Ty.cnts_take_le ks (j + 1)
          have hdj := Ty.deps_get ks j _ ht
          have HT := hid ht
          by_cases hg : Ty.good (.mk k1 n1 ks1) = true ∧ (Ty.dep (.mk k1 n1 ks1) : Int) ≤ d - 1
          · rw [Ty.nodes_yes hg.1 hg.2] at hc
            have hct' : Ty.cnts (ks.take j) + Ty.cnt (.mk k1 n1 ks1) ≤ 1048576 := by have := HK.out; omega
            have HC := hid hc
            have HG := hid hg
            have HCX := hid hcx
            clear ht hrk q0 q1 q2 hc hg hcx hdj
            go_wp2_with fail
            refine HC.out.mono ?_
            clear HC
            rintro e w1 ⟨rfl, hb1⟩
            have hbw := hb0.trans (hb1.mono (by have := hb0.size; simp at this; omega))
            clear hb1
            go_wp2_with fail
            go_roundw
            case rel =>
              refine ⟨j + 1, by omega, by go_num, congrArg (Value.int .i64) ?_, fun i t hi hti => ?_, hbw⟩
              · have := HCX.out; omega
              · rcases Nat.lt_succ_iff_lt_or_eq.1 hi with hi | rfl
                · exact HJ.out i t hi hti
                · obtain rfl := Option.some.inj (hti.symm.trans HT.out)
                  exact HG.out
            case measure => simp [intOf]; omega
          · have hn1 : Ty.nodes (.mk k1 n1 ks1) (d - 1) = -1 := by unfold Ty.nodes; rw [if_neg hg]
            rw [hn1] at hc
            have HC := hid hc
            have HG := hid hg
            have HDJ := hid hdj
            clear ht hrk q0 q1 q2 hc hg hcx hdj hn1
            go_wp2_with fail
            refine HC.out.mono ?_
            clear HC
            rintro e w1 ⟨rfl, hb1⟩
            have hbw := hb.trans (hb1.mono hb.size)
            clear hb1
            go_wp2_with fail
            go_ret
            refine ⟨ret_int ?_, hbw⟩
            unfold Ty.nodes
            rw [if_neg]
            rintro ⟨y1, y2⟩
            rw [HGD.out] at y1
            rw [HDP.out] at y2
            exact HG.out ⟨Ty.goods_get ks j _ y1 HT.out, by have := HDJ.out; omega⟩
        · obtain rfl : j = ks.length := by omega
          rw [List.take_length]
          go_wp2_with fail
          go_ret
          refine ⟨ret_int ?_, hb⟩
          have y1 : Ty.goods ks = true := Ty.goods_yes ks fun i t hti => (HJ.out i t (by have := (List.getElem?_eq_some_iff.1 hti).1; omega) hti).1
          have y2 : (Ty.deps ks : Int) ≤ d - 1 := by
            have := Ty.deps_all ks (d - 1).toNat fun i t hti => by
              have := (HJ.out i t (by have := (List.getElem?_eq_some_iff.1 hti).1; omega) hti).2
              omega
            omega
          rw [Ty.nodes_yes (by rw [HGD.out]; exact y1) (by rw [HDP.out]; omega), HCT.out]
    · subst hk'
      have hlb : ((ks.length : Int) != 1) = false := by simp [hl]
      have hlh := hid hl
      clear hl hgd hdp hct hok
      go_enter Tryz.func85, Tryz.ntmps85
      go_wp2_with fail
      go_loopw [6, 7, 8] (fun s i _ wr => ∃ (j : Nat), j ≤ ks.length ∧ i = .int .i64 j ∧ s = .int .i64 (1 + Ty.cnts (ks.take j) : Nat) ∧ Hid (∀ (i : Nat) t, i < j → ks[i]? = some t → Ty.good t = true ∧ (Ty.dep t : Int) ≤ d - 1) ∧
        Below (w.heap.size + 1) (w.alloc (.cells #[.int .i64 4, .string n, .slice aks ks.length cks] 33)) wr) (fun _ i _ _ => ks.length - (intOf i).toNat)
      case atStart => exact ⟨0, by omega, rfl, by simp [Ty.cnts], fun i t hi => absurd hi (by omega), Below.refl _ _⟩
      case round =>
        obtain ⟨j, hj, rfl, rfl, HJ, hb0⟩ := hrel
        have hb : Below w.heap.size w wr := HB0.out.trans (hb0.mono (by omega))
        have p2 : wr.cell? ⟨w.heap.size, 2, none⟩ = some (.slice aks ks.length cks) := (hb0.cell (p := ⟨w.heap.size, 2, none⟩) (by simp)).trans (by simp)
        by_cases hlt : j < ks.length
        · obtain ⟨b, o, rfl, hbl, hall⟩ := H4.out (by omega)
          obtain ⟨t, ht⟩ : ∃ t, ks[j]? = some t := ⟨_, List.getElem?_eq_getElem hlt⟩
          obtain ⟨k1, n1, ks1⟩ := t
          obtain ⟨a1, c1, q0, q1, q2, hrk⟩ := hall j k1 n1 ks1 ht
          clear hall H4
          have d0 := (hb.cell (p := ⟨b, o + j * 3, none⟩) hbl).trans q0
          have d1 := (hb.cell (p := ⟨b, o + j * 3 + 1, none⟩) hbl).trans q1
          have d2 := (hb.cell (p := ⟨b, o + j * 3 + 2, none⟩) hbl).trans q2
          have hbg := Ty.bulk_get ks j _ ht
          have hc := IH.out k1 n1 ks1 a1 c1 (d - 1) wr (by have := HK.out; omega) (by have := HK.out; omega) (by omega) (by omega) (hrk.below hb)
          have hcx := Ty.cnts_take ks j _ ht
          have hle := Ty.cnts_take_le ks (j + 1)
          have hdj := Ty.deps_get ks j _ ht
          have HT := hid ht
          by_cases hg : Ty.good (.mk k1 n1 ks1) = true ∧ (Ty.dep (.mk k1 n1 ks1) : Int) ≤ d - 1
          · rw [Ty.nodes_yes hg.1 hg.2] at hc
            have hct' : Ty.cnts (ks.take j) + Ty.cnt (.mk k1 n1 ks1) ≤ 1048576 := by have := HK.out; omega
            have HC := hid hc
            have HG := hid hg
            have HCX := hid hcx
            clear ht hrk q0 q1 q2 hc hg hcx hdj
            go_wp2_with fail
            refine HC.out.mono ?_
            clear HC
            rintro e w1 ⟨rfl, hb1⟩
            have hbw := hb0.trans (hb1.mono (by have := hb0.size; simp at this; omega))
            clear hb1
            go_wp2_with fail
            go_roundw
            case rel =>
              refine ⟨j + 1, by omega, by go_num, congrArg (Value.int .i64) ?_, fun i t hi hti => ?_, hbw⟩
              · have := HCX.out; omega
              · rcases Nat.lt_succ_iff_lt_or_eq.1 hi with hi | rfl
                · exact HJ.out i t hi hti
                · obtain rfl := Option.some.inj (hti.symm.trans HT.out)
                  exact HG.out
            case measure => simp [intOf]; omega
          · have hn1 : Ty.nodes (.mk k1 n1 ks1) (d - 1) = -1 := by unfold Ty.nodes; rw [if_neg hg]
            rw [hn1] at hc
            have HC := hid hc
            have HG := hid hg
            have HDJ := hid hdj
            clear ht hrk q0 q1 q2 hc hg hcx hdj hn1
            go_wp2_with fail
            refine HC.out.mono ?_
            clear HC
            rintro e w1 ⟨rfl, hb1⟩
            have hbw := hb.trans (hb1.mono hb.size)
            clear hb1
            go_wp2_with fail
            go_ret
            refine ⟨ret_int ?_, hbw⟩
            unfold Ty.nodes
            rw [if_neg]
            rintro ⟨y1, y2⟩
            rw [HGD.out] at y1
            rw [HDP.out] at y2
            exact HG.out ⟨Ty.goods_get ks j _ y1 HT.out, by have := HDJ.out; omega⟩
        · obtain rfl : j = ks.length := by omega
          rw [List.take_length]
          go_wp2_with fail
          go_ret
          refine ⟨ret_int ?_, hb⟩
          have y1 : Ty.goods ks = true := Ty.goods_yes ks fun i t hti => (HJ.out i t (by have := (List.getElem?_eq_some_iff.1 hti).1; omega) hti).1
          have y2 : (Ty.deps ks : Int) ≤ d - 1 := by
            have := Ty.deps_all ks (d - 1).toNat fun i t hti => by
              have := (HJ.out i t (by have := (List.getElem?_eq_some_iff.1 hti).1; omega) hti).2
              omega
            omega
          rw [Ty.nodes_yes (by rw [HGD.out]; exact y1) (by rw [HDP.out]; omega), HCT.out]

theorem nodes_all : ∀ N, NodesW N
  | 0 => fun _ _ _ _ _ _ _ h => absurd h (by omega)
  | N + 1 => l02Nodes_step N (nodes_all N)
theorem spec_l02Nodes (k : Int) (n : ByteArray) (ks : List Ty) (aks : Option Addr) (cks : Nat) (d : Int) (w : World) (hM : Ty.bulk (.mk k n ks) ≤ 1048576) (h0 : 0 ≤ d) (h1 : d ≤ 100) (hr : RdS w (Ty.d (.mk k n ks)) [.int .i64 k, .string n, .slice aks ks.length cks]) :
    Calls Tryz.prog 85 #[.agg #[.int .i64 k, .string n, .slice aks ks.length cks], .int .i64 d] w fun e w' => e = .returned (.int .i64 (Ty.nodes (.mk k n ks) d)) ∧ Below w.heap.size w w' :=
  nodes_all (Ty.bulk (.mk k n ks) + 1) k n ks aks cks d w (by omega) hM h0 h1 hr
end Go.Proofs.YtikhofcjkcbpbaaGreatDoor
