/- Walks: CountVar, of the reference and of the program. -/
import Derived.Test.YtgbiefjokohkkaaCoCountI
namespace Go.Proofs.Ytgbiefjokohkkaa
open Go.ChangeShapes Go.WideShapes Go.ChangeAt Go.RowKit
set_option linter.unusedVariables false

theorem bindsOf_01 (k i : Int) : bindsOf k i = 0 ∨ bindsOf k i = 1 := by
  unfold bindsOf; split
  · exact .inr rfl
  · split
    · split
      · exact .inr rfl
      · exact .inl rfl
    · exact .inl rfl
/-- Far from the indexes of a valid core. -/
def Far (d : Int) (n : Nat) : Prop := (256 ≤ d ∧ d ≤ 9223372036854775807) ∨ (-9223372036854775808 ≤ d ∧ d + n ≤ -1000000)
theorem far_next {d b : Int} {n m : Nat} (h : Far d n) (hm : m + 1 ≤ n) (hn : n ≤ 1048576) (hb : b = 0 ∨ b = 1) : Far (wrap64 (d + b)) m := by
  rcases h with h | h
  · by_cases e : d = 9223372036854775807
    · subst e
      rcases hb with rfl | rfl
      · rw [show wrap64 (9223372036854775807 + 0) = 9223372036854775807 by unfold wrap64; omega]; unfold Far; omega
      · rw [show wrap64 (9223372036854775807 + 1) = -9223372036854775808 by unfold wrap64; omega]; unfold Far; omega
    · rw [IntWalk.wrap64_in _ (by omega)]; unfold Far; omega
  · rw [IntWalk.wrap64_in _ (by omega)]; unfold Far; omega
theorem Far.less {d : Int} {n m : Nat} (h : Far d n) (hm : m ≤ n) : Far d m := by unfold Far at *; omega
mutual
theorem Co.cou_far : ∀ (t : Co) (d : Int), Co.good t = true → Co.bulk t ≤ 1048576 → Far d (Co.bulk t) → Co.cou t d = 0
  | .mk k v ds ks, d, hg, hb, hf => by
    simp only [Co.good, Bool.and_eq_true] at hg
    have hbk : Co.bulk (.mk k v ds ks) = In.bulks ds + Co.bulks ks := rfl
    rw [Co.cou]
    by_cases h1 : k = 1
    · rw [if_pos h1]
      subst h1
      have h := hg.1
      simp only [okCo, Bool.and_eq_true] at h
      have hv := h.2.2.1
      simp [coVal, inR] at hv
      rw [if_neg]
      intro e
      unfold Far at hf; omega
    · rw [if_neg h1]
      exact Co.cous_far k 0 ks d hg.2 (by omega) (hf.less (by omega))
theorem Co.cous_far : ∀ (k : Int) (i : Nat) (ts : List Co) (d : Int), Co.goods ts = true → Co.bulks ts ≤ 1048576 → Far d (Co.bulks ts) → Co.cous k i ts d = 0
  | k, i, [], d, _, _, _ => rfl
  | k, i, t :: ts, d, hg, hb, hf => by
    simp only [Co.goods, Bool.and_eq_true] at hg
    have hbk : Co.bulks (t :: ts) = 1 + Co.bulk t + Co.bulks ts := rfl
    rw [Co.cous, Co.cou_far t _ hg.1 (by omega) (far_next hf (by omega) hb (bindsOf_01 k i)), Co.cous_far k (i + 1) ts d hg.2 (by omega) (hf.less (by omega))]
    rfl
end
def coCount (t : Co) (d : Int) : Int := if Co.ok t = true ∧ 0 ≤ d then Co.cou t d else 0
theorem coCount_no1 {t : Co} {d : Int} (h : Co.ok t = false) : coCount t d = 0 := by unfold coCount; rw [if_neg (by simp [h])]
theorem coCount_no2 {t : Co} {d : Int} (h : d < 0) : coCount t d = 0 := by unfold coCount; rw [if_neg (by omega)]
theorem coCount_yes {t : Co} {d : Int} (h : Co.ok t = true) (hd : 0 ≤ d) : coCount t d = Co.cou t d := by unfold coCount; rw [if_pos ⟨h, hd⟩]
theorem coCount_far {t : Co} {d : Int} (h : Co.bulk t ≤ 1048576) (hd : 255 < d) (hd' : d ≤ 9223372036854775807) : coCount t d = 0 := by
  by_cases hk : Co.ok t = true
  · rw [coCount_yes hk (by omega)]
    exact Co.cou_far t d (ok_good hk) h (.inl (by omega))
  · exact coCount_no1 ((Bool.not_eq_true _).mp hk)

theorem spec_CountVar (k1 : Int) (v1 : Int) (ds1 : List Int) (ks1 : List Co) (ads1 : Option Addr) (cds1 : Nat) (aks1 : Option Addr) (cks1 : Nat) (d : Int) (w : World) (hM : Co.bulk (Co.mk k1 v1 ds1 ks1) ≤ 1048576) (hd : (Lit.int .i64 d).wf = true) (hr : RdS w (Co.d (Co.mk k1 v1 ds1 ks1)) [.int .i64 k1, .int .i64 v1, .slice ads1 ds1.length cds1, .slice aks1 ks1.length cks1]) :
    Calls Try.prog 32 #[.agg #[.int .i64 k1, .int .i64 v1, .slice ads1 ds1.length cds1, .slice aks1 ks1.length cks1], .int .i64 d] w fun e w' => e = .returned (.int .i64 (coCount (Co.mk k1 v1 ds1 ks1) d)) ∧ Below w.heap.size w w' := by
  have hdr : -9223372036854775808 ≤ d ∧ d ≤ 9223372036854775807 := by
    simp [Lit.wf, IntKind.min, IntKind.max, IntKind.bits, IntKind.signed] at hd; omega
  have HX0 := hid ((Boxes.nil w).alloc #[.int .i64 k1, .int .i64 v1, .slice ads1 ds1.length cds1, .slice aks1 ks1.length cks1] 30 (0, 0))
  have hB := (Below.refl w.heap.size w).alloc (Nat.le_refl _) (.cells #[.int .i64 k1, .int .i64 v1, .slice ads1 ds1.length cds1, .slice aks1 ks1.length cks1] 30)
  have hv := spec_l06Ok k1 v1 ds1 ks1 ads1 cds1 aks1 cks1 w.heap.size 0 _ hM (HX0.out.at 0 0 rfl rfl) (HX0.out.at 0 1 rfl rfl) (HX0.out.at 0 2 rfl rfl) (HX0.out.at 0 3 rfl rfl) (hr.below hB)
  have hc := fun W (hW : Below w.heap.size w W) x0 x1 x2 x3 => cou_all (Co.bulk (Co.mk k1 v1 ds1 ks1) + 1) k1 v1 ds1 ks1 ads1 cds1 aks1 cks1 w.heap.size 0 d W (by omega) hM x0 x1 x2 x3 (hr.below hW)
  have HB := hid hB
  by_cases hok : Co.ok (Co.mk k1 v1 ds1 ks1) = true
  case neg =>
    replace hok := (Bool.not_eq_true _).mp hok
    have HF := hid (coCount_no1 (d := d) hok)
    rw [hok] at hv
    have HV := hid hv
    clear hr hB hv hc hok HX0 hd hdr hM
    go_enter Try.func32, Try.ntmps32
    go_wp2_with fail
    refine HV.out.mono ?_
    rintro e w1 ⟨rfl, hb⟩
    have HB1 := hid (HB.out.trans (hb.mono HB.out.size))
    clear hb
    go_wp2_with fail
    go_ret
    exact ⟨ret_int HF.out.symm, HB1.out⟩
  case pos =>
    by_cases hin : inR d 0 255 = true
    case neg =>
      replace hin := (Bool.not_eq_true _).mp hin
      have HF := hid (show coCount (Co.mk k1 v1 ds1 ks1) d = 0 by
        simp [inR] at hin
        by_cases h0 : d < 0
        · exact coCount_no2 h0
        · exact coCount_far hM (by omega) hdr.2)
      have hi := fun W => spec_In d 0 255 W
      rw [hin] at hi
      rw [hok] at hv
      have HI := hid hi
      have HV := hid hv
      clear hr hB hv hc hok HX0 hd hdr hM hin hi
      go_enter Try.func32, Try.ntmps32
      go_wp2_with fail
      refine HV.out.mono ?_
      rintro e w1 ⟨rfl, hb⟩
      have HB1 := hid (HB.out.trans (hb.mono HB.out.size))
      clear hb
      go_wp2_with fail
      refine (HI.out _).mono ?_
      rintro e w2 ⟨rfl, rfl⟩
      go_wp2_with fail
      go_ret
      exact ⟨ret_int HF.out.symm, HB1.out⟩
    case pos =>
      have HF := hid (show coCount (Co.mk k1 v1 ds1 ks1) d = Co.cou (Co.mk k1 v1 ds1 ks1) d by
        simp [inR] at hin
        exact coCount_yes hok hin.1)
      have hi := fun W => spec_In d 0 255 W
      rw [hin] at hi
      rw [hok] at hv
      have HI := hid hi
      have HV := hid hv
      have HC := hid hc
      clear hr hB hv hc hok hd hdr hM hin hi
      go_enter Try.func32, Try.ntmps32
      go_wp2_with fail
      refine HV.out.mono ?_
      rintro e w1 ⟨rfl, hb⟩
      have HB1 := hid (HB.out.trans (hb.mono HB.out.size))
      have HX1 := hid (HX0.out.below hb)
      clear hb
      go_wp2_with fail
      refine (HI.out _).mono ?_
      rintro e w2 ⟨rfl, rfl⟩
      go_wp2_with fail
      refine (HC.out _ HB1.out (HX1.out.at 0 0 rfl rfl) (HX1.out.at 0 1 rfl rfl) (HX1.out.at 0 2 rfl rfl) (HX1.out.at 0 3 rfl rfl)).mono ?_
      rintro e w2 ⟨rfl, hb⟩
      have HB2 := hid (HB1.out.trans (hb.mono HB1.out.size))
      clear hb
      go_wp2_with fail
      go_ret
      exact ⟨ret_int HF.out.symm, HB2.out⟩

theorem impl_CountVar (k1 : Int) (v1 : Int) (ds1 : List Int) (ks1 : List Co) (ads1 : Option Addr) (cds1 : Nat) (aks1 : Option Addr) (cks1 : Nat) (d : Int) (w : World) (hM : Co.bulk (Co.mk k1 v1 ds1 ks1) ≤ 1048576) (hr : RdS w (Co.d (Co.mk k1 v1 ds1 ks1)) [.int .i64 k1, .int .i64 v1, .slice ads1 ds1.length cds1, .slice aks1 ks1.length cks1]) :
    Calls Try.prog 33 #[.agg #[.int .i64 k1, .int .i64 v1, .slice ads1 ds1.length cds1, .slice aks1 ks1.length cks1], .int .i64 d] w fun e w' => e = .returned (.int .i64 (coCount (Co.mk k1 v1 ds1 ks1) d)) ∧ Below w.heap.size w w' := by
  have HX0 := hid ((Boxes.nil w).alloc #[.int .i64 k1, .int .i64 v1, .slice ads1 ds1.length cds1, .slice aks1 ks1.length cks1] 30 (0, 0))
  have hB := (Below.refl w.heap.size w).alloc (Nat.le_refl _) (.cells #[.int .i64 k1, .int .i64 v1, .slice ads1 ds1.length cds1, .slice aks1 ks1.length cks1] 30)
  have hv := impl_ValidCore k1 v1 ds1 ks1 ads1 cds1 aks1 cks1 _ hM (hr.below hB)
  have hc := fun W (hW : Below w.heap.size w W) => cv_all (Co.bulk (Co.mk k1 v1 ds1 ks1) + 1) k1 v1 ds1 ks1 ads1 cds1 aks1 cks1 d W (by omega) hM (hr.below hW)
  have HB := hid hB
  by_cases hok : Co.ok (Co.mk k1 v1 ds1 ks1) = true
  case neg =>
    replace hok := (Bool.not_eq_true _).mp hok
    have HF := hid (coCount_no1 (d := d) hok)
    rw [hok] at hv
    have HV := hid hv
    clear hr hB hv hc hok HX0 hM
    go_enter Try.func33, Try.ntmps33
    go_wp2_with fail
    refine HV.out.mono ?_
    rintro e w1 ⟨rfl, hb⟩
    have HB1 := hid (HB.out.trans (hb.mono HB.out.size))
    clear hb
    go_wp2_with fail
    go_ret
    exact ⟨ret_int HF.out.symm, HB1.out⟩
  case pos =>
    rw [hok] at hv
    have HV := hid hv
    by_cases h0 : d < 0
    case pos =>
      have HF := hid (coCount_no2 (t := Co.mk k1 v1 ds1 ks1) h0)
      have hd0 : decide (d < 0) = true := by simp [h0]
      clear hr hB hv hc hok HX0 hM h0
      go_enter Try.func33, Try.ntmps33
      go_wp2_with fail
      refine HV.out.mono ?_
      rintro e w1 ⟨rfl, hb⟩
      have HB1 := hid (HB.out.trans (hb.mono HB.out.size))
      clear hb
      go_wp2_with fail
      go_ret
      exact ⟨ret_int HF.out.symm, HB1.out⟩
    case neg =>
      have HF := hid (coCount_yes hok (d := d) (by omega))
      have hd0 : decide (d < 0) = false := by simp [h0]
      have HC := hid hc
      clear hr hB hv hc hok hM h0
      go_enter Try.func33, Try.ntmps33
      go_wp2_with fail
      refine HV.out.mono ?_
      rintro e w1 ⟨rfl, hb⟩
      have HB1 := hid (HB.out.trans (hb.mono HB.out.size))
      have HX1 := hid (HX0.out.below hb)
      have g0 := HX1.out.at 0 0 rfl rfl
      have g1 := HX1.out.at 0 1 rfl rfl
      have g2 := HX1.out.at 0 2 rfl rfl
      have g3 := HX1.out.at 0 3 rfl rfl
      clear hb
      go_wp2_with fail
      refine (HC.out _ HB1.out).mono ?_
      rintro e w2 ⟨rfl, hb⟩
      have HB2 := hid (HB1.out.trans (hb.mono HB1.out.size))
      clear hb
      go_wp2_with fail
      go_ret
      exact ⟨ret_int HF.out.symm, HB2.out⟩
end Go.Proofs.Ytgbiefjokohkkaa
