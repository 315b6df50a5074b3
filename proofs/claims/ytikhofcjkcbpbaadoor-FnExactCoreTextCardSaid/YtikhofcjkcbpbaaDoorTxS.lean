/- Walks: the text of a core in the reference. No condition. -/
import Derived.Test.YtikhofcjkcbpbaaDoorTxL
namespace Go.Proofs.YtikhofcjkcbpbaaDoor
open Go.ChangeShapes Go.WideShapes Go.ChangeAt Go.RowKit Go.BigFrame
open Go.Sort (grow)
set_option linter.unusedVariables false

def SpTxW (N : Nat) : Prop := ∀ (k1 : Int) (v1 : Int) (ds1 : List Int) (ks1 : List Co) (ads1 : Option Addr) (cds1 : Nat) (aks1 : Option Addr) (cks1 : Nat) (b1 o1 : Nat) (w : World), Co.bulk (Co.mk k1 v1 ds1 ks1) < N → Co.bulk (Co.mk k1 v1 ds1 ks1) ≤ 1048576 → Co.good (Co.mk k1 v1 ds1 ks1) = true → w.cell? ⟨b1, o1, none⟩ = some (.int .i64 k1) → w.cell? ⟨b1, o1 + 1, none⟩ = some (.int .i64 v1) → w.cell? ⟨b1, o1 + 2, none⟩ = some (.slice ads1 ds1.length cds1) → w.cell? ⟨b1, o1 + 3, none⟩ = some (.slice aks1 ks1.length cks1) → RdS w (Co.d (Co.mk k1 v1 ds1 ks1)) [.int .i64 k1, .int .i64 v1, .slice ads1 ds1.length cds1, .slice aks1 ks1.length cks1] →
  Calls Tryd.prog 29 #[.pointer (some ⟨b1, o1, none⟩)] w fun e w' => e = .returned (.string (Co.text (Co.mk k1 v1 ds1 ks1))) ∧ Below w.heap.size w w'
set_option maxRecDepth 100000 in
set_option maxHeartbeats 4000000 in
theorem spec_text_step (N : Nat) (ih : SpTxW N) : SpTxW (N + 1) := by
  intro k1 v1 ds1 ks1 ads1 cds1 aks1 cks1 b1 o1 w hN hM hg x0 x1 x2 x3 hr
  have hbk : Co.bulk (Co.mk k1 v1 ds1 ks1) = In.bulks ds1 + Co.bulks ks1 := rfl
  obtain ⟨_, ⟨lov, hiv⟩, hds, hks⟩ := hr.fCo
  obtain ⟨_, _, e, h2, h3, h4⟩ := hks.eCo
  simp only [Value.slice.injEq, true_and] at e
  obtain ⟨rfl, rfl⟩ := e
  simp only [Co.good, Bool.and_eq_true] at hg
  obtain ⟨hok, hgs⟩ := hg
  obtain ⟨hlv, hcd⟩ := okCo_val hok
  have hlb := Co.bulks_length ks1
  clear hks h2 h3 hr
  rcases okCo_cases hok with ⟨hk, hn⟩ | ⟨hk, hn⟩ | ⟨hk, hn⟩ | ⟨rfl, hn⟩ | ⟨hk, hn, hdl⟩
  · rcases hk with hk1 | hk1 | hk1
    · subst hk1
      have HT := hid (show Co.text (Co.mk 1 v1 ds1 ks1) = ((⟨#[35]⟩ : ByteArray) ++ (⟨(Lib.itoa v1).toArray⟩ : ByteArray)) by simp [Co.text, nodeTxt, dec])
      have HC := hid (spec_Decimal v1 lov hiv w)
      have hsz : (⟨(Lib.itoa v1).toArray⟩ : ByteArray).size ≤ 11 := dec_size hlv
      have le1 : (⟨#[35]⟩ : ByteArray).size = 1 := rfl
      clear x2 x3 hok hgs hcd hds h4 hN hM hbk ih hn hlb hlv
      go_enter Tryd.func29, Tryd.ntmps29
      go_wp2_with fail
      refine HC.out.mono ?_
      rintro e w1 ⟨rfl, hb⟩
      have HB := hid hb
      clear hb
      go_wp2_with fail
      go_ret
      exact ret_str2 HT.out.symm HB.out
    · subst hk1
      have HT := hid (show Co.text (Co.mk 2 v1 ds1 ks1) = (⟨(Lib.itoa v1).toArray⟩ : ByteArray) by simp [Co.text, nodeTxt, dec])
      have HC := hid (spec_Decimal v1 lov hiv w)
      have hsz : (⟨(Lib.itoa v1).toArray⟩ : ByteArray).size ≤ 11 := dec_size hlv
      clear x2 x3 hok hgs hcd hds h4 hN hM hbk ih hn hlb hlv
      go_enter Tryd.func29, Tryd.ntmps29
      go_wp2_with fail
      refine HC.out.mono ?_
      rintro e w1 ⟨rfl, hb⟩
      have HB := hid hb
      clear hb
      go_wp2_with fail
      go_ret
      exact ret_str2 HT.out.symm HB.out
    · subst hk1
      have HT := hid (show Co.text (Co.mk 11 v1 ds1 ks1) = ((⟨#[64]⟩ : ByteArray) ++ (⟨(Lib.itoa v1).toArray⟩ : ByteArray)) by simp [Co.text, nodeTxt, dec])
      have HC := hid (spec_Decimal v1 lov hiv w)
      have hsz : (⟨(Lib.itoa v1).toArray⟩ : ByteArray).size ≤ 11 := dec_size hlv
      have le1 : (⟨#[64]⟩ : ByteArray).size = 1 := rfl
      clear x2 x3 hok hgs hcd hds h4 hN hM hbk ih hn hlb hlv
      go_enter Tryd.func29, Tryd.ntmps29
      go_wp2_with fail
      refine HC.out.mono ?_
      rintro e w1 ⟨rfl, hb⟩
      have HB := hid hb
      clear hb
      go_wp2_with fail
      go_ret
      exact ret_str2 HT.out.symm HB.out
  · rcases hk with hk1 | hk1 | hk1
    · subst hk1
      obtain ⟨⟨k2, v2, ds2, ks2⟩, ⟨k3, v3, ds3, ks3⟩, rfl⟩ : ∃ a b, ks1 = [a, b] := by
        match ks1, hn with
        | [a, b], _ => exact ⟨a, b, rfl⟩
      obtain ⟨b, o, rfl, hbl, hall⟩ := h4 (by simp)
      obtain ⟨ad2, cd2, ak2, ck2, q0, q1, q2, q3, hr2⟩ := hall 0 k2 v2 ds2 ks2 rfl
      obtain ⟨ad3, cd3, ak3, ck3, p0, p1, p2, p3, hr3⟩ := hall 1 k3 v3 ds3 ks3 rfl
      clear hall h4
      simp only [Co.goods, Bool.and_eq_true] at hgs
      simp only [Nat.zero_mul, Nat.one_mul, Nat.add_zero] at q0 q1 q2 q3 p0 p1 p2 p3
      have hbs : Co.bulks [.mk k2 v2 ds2 ks2, .mk k3 v3 ds3 ks3] = 1 + Co.bulk (.mk k2 v2 ds2 ks2) + (1 + Co.bulk (.mk k3 v3 ds3 ks3) + 0) := rfl
      have hzx := Co.text_small hgs.1 (by omega)
      have hzy := Co.text_small hgs.2.1 (by omega)
      have hc1 := fun d os => Calls.regrown_of (ih k2 v2 ds2 ks2 ad2 cd2 ak2 ck2 b o (grow (redrawn w d) os) (by omega) (by omega) hgs.1 (cell_regrown q0 d os) (cell_regrown q1 d os) (cell_regrown q2 d os) (cell_regrown q3 d os) (hr2.below (below_regrown _ d os)))
      have hc2 := fun d os => Calls.regrown_of (ih k3 v3 ds3 ks3 ad3 cd3 ak3 ck3 b (o + 4) (grow (redrawn w d) os) (by omega) (by omega) hgs.2.1 (cell_regrown p0 d os) (cell_regrown p1 d os) (cell_regrown p2 d os) (cell_regrown p3 d os) (hr3.below (below_regrown _ d os)))
      have hc3 := fun d os => Calls.regrown_of (spec_OperatorText v1 (grow (redrawn w d) os))
      have hzz := opText_le v1
      have ht : Co.text (Co.mk 3 v1 ds1 [.mk k2 v2 ds2 ks2, .mk k3 v3 ds3 ks3]) = (((((((⟨#[40]⟩ : ByteArray) ++ Co.text (.mk k2 v2 ds2 ks2)) ++ (⟨#[32]⟩ : ByteArray)) ++ opText v1) ++ (⟨#[32]⟩ : ByteArray)) ++ Co.text (.mk k3 v3 ds3 ks3)) ++ (⟨#[41]⟩ : ByteArray)) := by
        simp [Co.text, Co.texts, nodeTxt, fst1, snd1]
      rw [ht]
      clear ht
      have d1 := cell_regrown x1
      replace x3 : w.cell? ⟨b1, o1 + 3, none⟩ = some (.slice (some ⟨b, o, none⟩) 2 cks1) := x3
      have d3 := cell_regrown x3
      generalize hx : Co.text (.mk k2 v2 ds2 ks2) = x at hc1 hzx ⊢
      generalize hy : Co.text (.mk k3 v3 ds3 ks3) = y at hc2 hzy ⊢
      generalize hz : opText v1 = z at hc3 hzz ⊢
      have HC3 := hid hc3
      clear hc3 hz
      have le1 : (⟨#[40]⟩ : ByteArray).size = 1 := rfl
      have le2 : (⟨#[32]⟩ : ByteArray).size = 1 := rfl
      have le3 : (⟨#[41]⟩ : ByteArray).size = 1 := rfl
      have ce1 : ((⟨#[40]⟩ : ByteArray) ++ x).size = 1 + x.size := by rw [ByteArray.size_append, le1]
      have ce2 : (((⟨#[40]⟩ : ByteArray) ++ x) ++ (⟨#[32]⟩ : ByteArray)).size = 1 + x.size + 1 := by rw [ByteArray.size_append, ce1, le2]
      have ce3 : ((((⟨#[40]⟩ : ByteArray) ++ x) ++ (⟨#[32]⟩ : ByteArray)) ++ z).size = 1 + x.size + 1 + z.size := by rw [ByteArray.size_append, ce2]
      have ce4 : (((((⟨#[40]⟩ : ByteArray) ++ x) ++ (⟨#[32]⟩ : ByteArray)) ++ z) ++ (⟨#[32]⟩ : ByteArray)).size = 1 + x.size + 1 + z.size + 1 := by rw [ByteArray.size_append, ce3, le2]
      have ce5 : ((((((⟨#[40]⟩ : ByteArray) ++ x) ++ (⟨#[32]⟩ : ByteArray)) ++ z) ++ (⟨#[32]⟩ : ByteArray)) ++ y).size = 1 + x.size + 1 + z.size + 1 + y.size := by rw [ByteArray.size_append, ce4]
      have HC1 := hid hc1
      have HC2 := hid hc2
      clear hc1 hc2 hx hy hr2 hr3 q0 q1 q2 q3 p0 p1 p2 p3 hbk hbs hgs ih hN hM x1 x2 x3 hds hcd hlv hok hn lov hiv hlb
      go_enter Tryd.func29, Tryd.ntmps29
      go_wp2_with fail
      refine wp_region_quiet_below (by kernel_rfl) (by kernel_rfl) ?_
      repeat (go_big_quiet_step (first | (with_reducible exact HC1.out _ _) | (with_reducible exact HC2.out _ _) | (with_reducible exact HC3.out _ _)))
      refine wpQuiet_nil ?_
      intro _ hw'
      obtain ⟨⟨dq, osq⟩, hw''⟩ := hw'
      subst hw''
      have HB1 := hid (below_regrown w dq osq)
      clear d1 d3 HC1 HC2
      go_wp2_with fail
      go_ret
      exact ⟨rfl, HB1.out⟩
    · subst hk1
      obtain ⟨⟨k2, v2, ds2, ks2⟩, ⟨k3, v3, ds3, ks3⟩, rfl⟩ : ∃ a b, ks1 = [a, b] := by
        match ks1, hn with
        | [a, b], _ => exact ⟨a, b, rfl⟩
      obtain ⟨b, o, rfl, hbl, hall⟩ := h4 (by simp)
      obtain ⟨ad2, cd2, ak2, ck2, q0, q1, q2, q3, hr2⟩ := hall 0 k2 v2 ds2 ks2 rfl
      obtain ⟨ad3, cd3, ak3, ck3, p0, p1, p2, p3, hr3⟩ := hall 1 k3 v3 ds3 ks3 rfl
      clear hall h4
      simp only [Co.goods, Bool.and_eq_true] at hgs
      simp only [Nat.zero_mul, Nat.one_mul, Nat.add_zero] at q0 q1 q2 q3 p0 p1 p2 p3
      have hbs : Co.bulks [.mk k2 v2 ds2 ks2, .mk k3 v3 ds3 ks3] = 1 + Co.bulk (.mk k2 v2 ds2 ks2) + (1 + Co.bulk (.mk k3 v3 ds3 ks3) + 0) := rfl
      have hzx := Co.text_small hgs.1 (by omega)
      have hzy := Co.text_small hgs.2.1 (by omega)
      have hc1 := fun d os => Calls.regrown_of (ih k2 v2 ds2 ks2 ad2 cd2 ak2 ck2 b o (grow (redrawn w d) os) (by omega) (by omega) hgs.1 (cell_regrown q0 d os) (cell_regrown q1 d os) (cell_regrown q2 d os) (cell_regrown q3 d os) (hr2.below (below_regrown _ d os)))
      have hc2 := fun d os => Calls.regrown_of (ih k3 v3 ds3 ks3 ad3 cd3 ak3 ck3 b (o + 4) (grow (redrawn w d) os) (by omega) (by omega) hgs.2.1 (cell_regrown p0 d os) (cell_regrown p1 d os) (cell_regrown p2 d os) (cell_regrown p3 d os) (hr3.below (below_regrown _ d os)))
      have ht : Co.text (Co.mk 5 v1 ds1 [.mk k2 v2 ds2 ks2, .mk k3 v3 ds3 ks3]) = (((((⟨#[40]⟩ : ByteArray) ++ Co.text (.mk k2 v2 ds2 ks2)) ++ (⟨#[32]⟩ : ByteArray)) ++ Co.text (.mk k3 v3 ds3 ks3)) ++ (⟨#[41]⟩ : ByteArray)) := by
        simp [Co.text, Co.texts, nodeTxt, fst1, snd1]
      rw [ht]
      clear ht
      have d1 := cell_regrown x1
      replace x3 : w.cell? ⟨b1, o1 + 3, none⟩ = some (.slice (some ⟨b, o, none⟩) 2 cks1) := x3
      have d3 := cell_regrown x3
      generalize hx : Co.text (.mk k2 v2 ds2 ks2) = x at hc1 hzx ⊢
      generalize hy : Co.text (.mk k3 v3 ds3 ks3) = y at hc2 hzy ⊢
      have le1 : (⟨#[40]⟩ : ByteArray).size = 1 := rfl
      have le2 : (⟨#[32]⟩ : ByteArray).size = 1 := rfl
      have le3 : (⟨#[41]⟩ : ByteArray).size = 1 := rfl
      have ce1 : ((⟨#[40]⟩ : ByteArray) ++ x).size = 1 + x.size := by rw [ByteArray.size_append, le1]
      have ce2 : (((⟨#[40]⟩ : ByteArray) ++ x) ++ (⟨#[32]⟩ : ByteArray)).size = 1 + x.size + 1 := by rw [ByteArray.size_append, ce1, le2]
      have ce3 : ((((⟨#[40]⟩ : ByteArray) ++ x) ++ (⟨#[32]⟩ : ByteArray)) ++ y).size = 1 + x.size + 1 + y.size := by rw [ByteArray.size_append, ce2]
      have HC1 := hid hc1
      have HC2 := hid hc2
      clear hc1 hc2 hx hy hr2 hr3 q0 q1 q2 q3 p0 p1 p2 p3 hbk hbs hgs ih hN hM x1 x2 x3 hds hcd hlv hok hn lov hiv hlb
      go_enter Tryd.func29, Tryd.ntmps29
      go_wp2_with fail
      refine wp_region_quiet_below (by kernel_rfl) (by kernel_rfl) ?_
      repeat (go_big_quiet_step (first | (with_reducible exact HC1.out _ _) | (with_reducible exact HC2.out _ _)))
      refine wpQuiet_nil ?_
      intro _ hw'
      obtain ⟨⟨dq, osq⟩, hw''⟩ := hw'
      subst hw''
      have HB1 := hid (below_regrown w dq osq)
      clear d1 d3 HC1 HC2
      go_wp2_with fail
      go_ret
      exact ⟨rfl, HB1.out⟩
    · subst hk1
      obtain ⟨⟨k2, v2, ds2, ks2⟩, ⟨k3, v3, ds3, ks3⟩, rfl⟩ : ∃ a b, ks1 = [a, b] := by
        match ks1, hn with
        | [a, b], _ => exact ⟨a, b, rfl⟩
      obtain ⟨b, o, rfl, hbl, hall⟩ := h4 (by simp)
      obtain ⟨ad2, cd2, ak2, ck2, q0, q1, q2, q3, hr2⟩ := hall 0 k2 v2 ds2 ks2 rfl
      obtain ⟨ad3, cd3, ak3, ck3, p0, p1, p2, p3, hr3⟩ := hall 1 k3 v3 ds3 ks3 rfl
      clear hall h4
      simp only [Co.goods, Bool.and_eq_true] at hgs
      simp only [Nat.zero_mul, Nat.one_mul, Nat.add_zero] at q0 q1 q2 q3 p0 p1 p2 p3
      have hbs : Co.bulks [.mk k2 v2 ds2 ks2, .mk k3 v3 ds3 ks3] = 1 + Co.bulk (.mk k2 v2 ds2 ks2) + (1 + Co.bulk (.mk k3 v3 ds3 ks3) + 0) := rfl
      have hzx := Co.text_small hgs.1 (by omega)
      have hzy := Co.text_small hgs.2.1 (by omega)
      have hc1 := fun d os => Calls.regrown_of (ih k2 v2 ds2 ks2 ad2 cd2 ak2 ck2 b o (grow (redrawn w d) os) (by omega) (by omega) hgs.1 (cell_regrown q0 d os) (cell_regrown q1 d os) (cell_regrown q2 d os) (cell_regrown q3 d os) (hr2.below (below_regrown _ d os)))
      have hc2 := fun d os => Calls.regrown_of (ih k3 v3 ds3 ks3 ad3 cd3 ak3 ck3 b (o + 4) (grow (redrawn w d) os) (by omega) (by omega) hgs.2.1 (cell_regrown p0 d os) (cell_regrown p1 d os) (cell_regrown p2 d os) (cell_regrown p3 d os) (hr3.below (below_regrown _ d os)))
      have ht : Co.text (Co.mk 7 v1 ds1 [.mk k2 v2 ds2 ks2, .mk k3 v3 ds3 ks3]) = (((((⟨#[40, 108, 101, 116, 32]⟩ : ByteArray) ++ Co.text (.mk k2 v2 ds2 ks2)) ++ (⟨#[32, 105, 110, 32]⟩ : ByteArray)) ++ Co.text (.mk k3 v3 ds3 ks3)) ++ (⟨#[41]⟩ : ByteArray)) := by
        simp [Co.text, Co.texts, nodeTxt, fst1, snd1]
      rw [ht]
      clear ht
      have d1 := cell_regrown x1
      replace x3 : w.cell? ⟨b1, o1 + 3, none⟩ = some (.slice (some ⟨b, o, none⟩) 2 cks1) := x3
      have d3 := cell_regrown x3
      generalize hx : Co.text (.mk k2 v2 ds2 ks2) = x at hc1 hzx ⊢
      generalize hy : Co.text (.mk k3 v3 ds3 ks3) = y at hc2 hzy ⊢
      have le1 : (⟨#[40, 108, 101, 116, 32]⟩ : ByteArray).size = 5 := rfl
      have le2 : (⟨#[32, 105, 110, 32]⟩ : ByteArray).size = 4 := rfl
      have le3 : (⟨#[41]⟩ : ByteArray).size = 1 := rfl
      have ce1 : ((⟨#[40, 108, 101, 116, 32]⟩ : ByteArray) ++ x).size = 5 + x.size := by rw [ByteArray.size_append, le1]
      have ce2 : (((⟨#[40, 108, 101, 116, 32]⟩ : ByteArray) ++ x) ++ (⟨#[32, 105, 110, 32]⟩ : ByteArray)).size = 5 + x.size + 4 := by rw [ByteArray.size_append, ce1, le2]
      have ce3 : ((((⟨#[40, 108, 101, 116, 32]⟩ : ByteArray) ++ x) ++ (⟨#[32, 105, 110, 32]⟩ : ByteArray)) ++ y).size = 5 + x.size + 4 + y.size := by rw [ByteArray.size_append, ce2]
      have HC1 := hid hc1
      have HC2 := hid hc2
      clear hc1 hc2 hx hy hr2 hr3 q0 q1 q2 q3 p0 p1 p2 p3 hbk hbs hgs ih hN hM x1 x2 x3 hds hcd hlv hok hn lov hiv hlb
      go_enter Tryd.func29, Tryd.ntmps29
      go_wp2_with fail
      refine wp_region_quiet_below (by kernel_rfl) (by kernel_rfl) ?_
      repeat (go_big_quiet_step (first | (with_reducible exact HC1.out _ _) | (with_reducible exact HC2.out _ _)))
      refine wpQuiet_nil ?_
      intro _ hw'
      obtain ⟨⟨dq, osq⟩, hw''⟩ := hw'
      subst hw''
      have HB1 := hid (below_regrown w dq osq)
      clear d1 d3 HC1 HC2
      go_wp2_with fail
      go_ret
      exact ⟨rfl, HB1.out⟩
  · rcases hk with hk1 | hk1
    · subst hk1
      obtain ⟨⟨k2, v2, ds2, ks2⟩, rfl⟩ : ∃ a, ks1 = [a] := by
        match ks1, hn with
        | [a], _ => exact ⟨a, rfl⟩
      obtain ⟨b, o, rfl, hbl, hall⟩ := h4 (by simp)
      obtain ⟨ad2, cd2, ak2, ck2, q0, q1, q2, q3, hr2⟩ := hall 0 k2 v2 ds2 ks2 rfl
      clear hall h4
      simp only [Co.goods, Bool.and_eq_true] at hgs
      simp only [Nat.zero_mul, Nat.add_zero] at q0 q1 q2 q3
      have hbs : Co.bulks [.mk k2 v2 ds2 ks2] = 1 + Co.bulk (.mk k2 v2 ds2 ks2) + 0 := rfl
      have hzx := Co.text_small hgs.1 (by omega)
      have hc1 := ih k2 v2 ds2 ks2 ad2 cd2 ak2 ck2 b o w (by omega) (by omega) hgs.1 q0 q1 q2 q3 hr2
      have ht : Co.text (Co.mk 4 v1 ds1 [.mk k2 v2 ds2 ks2]) = ((⟨#[94]⟩ : ByteArray) ++ Co.text (.mk k2 v2 ds2 ks2)) := by
        simp [Co.text, Co.texts, nodeTxt, fst1]
      rw [ht]
      clear ht
      replace x3 : w.cell? ⟨b1, o1 + 3, none⟩ = some (.slice (some ⟨b, o, none⟩) 1 cks1) := x3
      generalize hx : Co.text (.mk k2 v2 ds2 ks2) = x at hc1 hzx ⊢
      have le1 : (⟨#[94]⟩ : ByteArray).size = 1 := rfl
      have HC1 := hid hc1
      clear hc1 hx hr2 q0 q1 q2 q3 hbk hbs hgs ih hN hM x1 x2 hds hcd hlv hok hn lov hiv hlb
      go_enter Tryd.func29, Tryd.ntmps29
      go_wp2_with fail
      refine HC1.out.mono ?_
      rintro e w1 ⟨rfl, hb⟩
      have HB1 := hid hb
      clear hb
      go_wp2_with fail
      go_ret
      exact ⟨rfl, HB1.out⟩
    · subst hk1
      obtain ⟨⟨k2, v2, ds2, ks2⟩, rfl⟩ : ∃ a, ks1 = [a] := by
        match ks1, hn with
        | [a], _ => exact ⟨a, rfl⟩
      obtain ⟨b, o, rfl, hbl, hall⟩ := h4 (by simp)
      obtain ⟨ad2, cd2, ak2, ck2, q0, q1, q2, q3, hr2⟩ := hall 0 k2 v2 ds2 ks2 rfl
      clear hall h4
      simp only [Co.goods, Bool.and_eq_true] at hgs
      simp only [Nat.zero_mul, Nat.add_zero] at q0 q1 q2 q3
      have hbs : Co.bulks [.mk k2 v2 ds2 ks2] = 1 + Co.bulk (.mk k2 v2 ds2 ks2) + 0 := rfl
      have hzx := Co.text_small hgs.1 (by omega)
      have hc1 := ih k2 v2 ds2 ks2 ad2 cd2 ak2 ck2 b o w (by omega) (by omega) hgs.1 q0 q1 q2 q3 hr2
      have ht : Co.text (Co.mk 6 v1 ds1 [.mk k2 v2 ds2 ks2]) = ((⟨#[33]⟩ : ByteArray) ++ Co.text (.mk k2 v2 ds2 ks2)) := by
        simp [Co.text, Co.texts, nodeTxt, fst1]
      rw [ht]
      clear ht
      replace x3 : w.cell? ⟨b1, o1 + 3, none⟩ = some (.slice (some ⟨b, o, none⟩) 1 cks1) := x3
      generalize hx : Co.text (.mk k2 v2 ds2 ks2) = x at hc1 hzx ⊢
      have le1 : (⟨#[33]⟩ : ByteArray).size = 1 := rfl
      have HC1 := hid hc1
      clear hc1 hx hr2 q0 q1 q2 q3 hbk hbs hgs ih hN hM x1 x2 hds hcd hlv hok hn lov hiv hlb
      go_enter Tryd.func29, Tryd.ntmps29
      go_wp2_with fail
      refine HC1.out.mono ?_
      rintro e w1 ⟨rfl, hb⟩
      have HB1 := hid hb
      clear hb
      go_wp2_with fail
      go_ret
      exact ⟨rfl, HB1.out⟩
  · have HT := hid (show Co.text (Co.mk 8 v1 ds1 ks1) = addAll blank (⟨#[60]⟩ ++ ⟨(Lib.itoa v1).toArray⟩) (Co.texts ks1) ++ ⟨#[62]⟩ by simp [Co.text, nodeTxt, dec])
    have HC := hid (spec_Decimal v1 lov hiv w)
    have hsz : (⟨(Lib.itoa v1).toArray⟩ : ByteArray).size ≤ 11 := dec_size hlv
    have e1 : (⟨#[60]⟩ : ByteArray).size = 1 := rfl
    have H4 := hid h4
    have HBK := hid hbk
    have HN := hid hN
    have HM := hid hM
    have HGS := hid hgs
    have IH := hid ih
    have X3 := hid x3
    have XL := hid (World.block_lt_of_cell? _ _ x3)
    clear x2 hok hgs hcd hds h4 hN hM hbk ih hlb hlv
    go_enter Tryd.func29, Tryd.ntmps29
    go_wp2_with fail
    refine HC.out.mono ?_
    rintro e w1 ⟨rfl, hb⟩
    have HB := hid hb
    clear hb
    go_wp2_with fail
    go_loopw [3, 4] (fun t i wr => ∃ (j : Nat) (x : ByteArray), j ≤ ks1.length ∧ i = .int .i64 j ∧ t = .string x ∧ x.size ≤ 12 + j * 67108929 ∧ Hid (x = addAll blank (⟨#[60]⟩ ++ ⟨(Lib.itoa v1).toArray⟩) (Co.texts (ks1.take j))) ∧ Hid (Below w.heap.size w wr)) (fun _ i _ => ks1.length - (intOf i).toNat)
    case atStart => exact ⟨0, _, by omega, rfl, rfl, by rw [ByteArray.size_append, e1]; omega, hid rfl, HB⟩
    case round =>
      obtain ⟨j, x, hj, rfl, rfl, hx, HX, HB⟩ := hrel
      have z3 := (HB.out.cell (p := ⟨b1, o1 + 3, none⟩) XL.out).trans X3.out
      by_cases hlt : j < ks1.length
      case neg =>
        have HE := hid (show x ++ ⟨#[62]⟩ = Co.text (Co.mk 8 v1 ds1 ks1) by rw [HT.out, HX.out, List.take_of_length_le (by omega)])
        have hxs : x.size ≤ 300000000 := by omega
        have e9 : (⟨#[62]⟩ : ByteArray).size = 1 := rfl
        clear hx
        go_wp2_with fail
        go_ret
        exact ret_str2 HE.out HB.out
      case pos =>
        obtain ⟨b, o, rfl, hbl, hall⟩ := H4.out (by omega)
        obtain ⟨t, ht⟩ : ∃ t, ks1[j]? = some t := ⟨_, List.getElem?_eq_getElem hlt⟩
        obtain ⟨k3, v3, ds3, ks3⟩ := t
        obtain ⟨ads3, cds3, aks3, cks3, q0, q1, q2, q3, hrk⟩ := hall j k3 v3 ds3 ks3 ht
        clear hall H4
        have hbg := Co.bulk_get ks1 j _ ht
        have hgk := Co.goods_get ks1 j _ HGS.out ht
        have hc := IH.out k3 v3 ds3 ks3 ads3 cds3 aks3 cks3 b (o + j * 4) wr (by have := HBK.out; have := HN.out; omega) (by have := HBK.out; have := HM.out; omega) hgk
          ((HB.out.cell (p := ⟨b, o + j * 4, none⟩) hbl).trans q0) ((HB.out.cell (p := ⟨b, o + j * 4 + 1, none⟩) hbl).trans q1) ((HB.out.cell (p := ⟨b, o + j * 4 + 2, none⟩) hbl).trans q2) ((HB.out.cell (p := ⟨b, o + j * 4 + 3, none⟩) hbl).trans q3) (hrk.below HB.out)
        have hzy := Co.text_small hgk (by have := HBK.out; have := HM.out; omega)
        have HSN := hid (Co.texts_snoc ks1 j _ ht)
        generalize hy : Co.text (.mk k3 v3 ds3 ks3) = y at hc hzy HSN
        have HE := hid (show x ++ (⟨#[32]⟩ ++ y) = addAll blank (⟨#[60]⟩ ++ ⟨(Lib.itoa v1).toArray⟩) (Co.texts (ks1.take (j + 1))) by rw [HSN.out, addAll_snoc, ← HX.out])
        have e8 : (⟨#[32]⟩ : ByteArray).size = 1 := rfl
        have e7 : ((⟨#[32]⟩ : ByteArray) ++ y).size = 1 + y.size := by rw [ByteArray.size_append, e8]
        have hes : (x ++ ((⟨#[32]⟩ : ByteArray) ++ y)).size ≤ 12 + (j + 1) * 67108929 := by rw [ByteArray.size_append, e7]; omega
        have hxs : x.size ≤ 300000000 := by omega
        have HES := hid hes
        have HC1 := hid hc
        clear ht hrk q0 q1 q2 q3 hc hy hbg hgk hes hx
        go_wp2_with fail
        refine HC1.out.mono ?_
        rintro e w2 ⟨rfl, hb⟩
        have HB2 := hid (HB.out.trans (hb.mono HB.out.size))
        clear hb z3 HC1
        go_wp2_with fail
        go_roundw
        case rel => exact ⟨j + 1, _, by omega, by go_num, rfl, HES.out, HE, HB2⟩
        case measure => first | (simp [intOf]; done) | (simp [intOf]; omega)
  · rcases hk with hk1 | hk1
    · subst hk1
      obtain ⟨⟨k2, v2, ds2, ks2⟩, rfl⟩ : ∃ a, ks1 = [a] := by
        match ks1, hn with
        | [a], _ => exact ⟨a, rfl⟩
      obtain ⟨b, o, rfl, hbl, hall⟩ := h4 (by simp)
      obtain ⟨ad2, cd2, ak2, ck2, q0, q1, q2, q3, hr2⟩ := hall 0 k2 v2 ds2 ks2 rfl
      clear hall h4
      simp only [Co.goods, Bool.and_eq_true] at hgs
      simp only [Nat.zero_mul, Nat.add_zero] at q0 q1 q2 q3
      have hbs : Co.bulks [.mk k2 v2 ds2 ks2] = 1 + Co.bulk (.mk k2 v2 ds2 ks2) + 0 := rfl
      have hzx := Co.text_small hgs.1 (by omega)
      have hzd := decs_size hcd
      have hc1 := fun d os => Calls.regrown_of (ih k2 v2 ds2 ks2 ad2 cd2 ak2 ck2 b o (grow (redrawn w d) os) (by omega) (by omega) hgs.1 (cell_regrown q0 d os) (cell_regrown q1 d os) (cell_regrown q2 d os) (cell_regrown q3 d os) (hr2.below (below_regrown _ d os)))
      have hc2 := fun d os => Calls.regrown_of (spec_List ds1 ads1 cds1 (grow (redrawn w d) os) hdl hcd (hds.below (below_regrown _ d os)))
      have ht : Co.text (Co.mk 9 v1 ds1 [.mk k2 v2 ds2 ks2]) = (((((⟨#[91]⟩ : ByteArray) ++ decs ds1) ++ (⟨#[58]⟩ : ByteArray)) ++ Co.text (.mk k2 v2 ds2 ks2)) ++ (⟨#[93]⟩ : ByteArray)) := by
        simp [Co.text, Co.texts, nodeTxt, fst1]
      rw [ht]
      clear ht
      replace x3 : w.cell? ⟨b1, o1 + 3, none⟩ = some (.slice (some ⟨b, o, none⟩) 1 cks1) := x3
      have d2 := cell_regrown x2
      have d3 := cell_regrown x3
      generalize hx : Co.text (.mk k2 v2 ds2 ks2) = x at hc1 hzx ⊢
      generalize hy : decs ds1 = y at hc2 hzd ⊢
      have hzy : y.size ≤ 48 := by omega
      have le1 : (⟨#[91]⟩ : ByteArray).size = 1 := rfl
      have le2 : (⟨#[58]⟩ : ByteArray).size = 1 := rfl
      have le3 : (⟨#[93]⟩ : ByteArray).size = 1 := rfl
      have ce1 : ((⟨#[91]⟩ : ByteArray) ++ y).size = 1 + y.size := by rw [ByteArray.size_append, le1]
      have ce2 : (((⟨#[91]⟩ : ByteArray) ++ y) ++ (⟨#[58]⟩ : ByteArray)).size = 1 + y.size + 1 := by rw [ByteArray.size_append, ce1, le2]
      have ce3 : ((((⟨#[91]⟩ : ByteArray) ++ y) ++ (⟨#[58]⟩ : ByteArray)) ++ x).size = 1 + y.size + 1 + x.size := by rw [ByteArray.size_append, ce2]
      have HC1 := hid hc1
      have HC2 := hid hc2
      clear hc1 hc2 hx hy hzd hr2 q0 q1 q2 q3 hbk hbs hgs ih hN hM x1 x2 x3 hds hcd hlv hok hn lov hiv hlb
      go_enter Tryd.func29, Tryd.ntmps29
      go_wp2_with fail
      refine wp_region_quiet_below (by kernel_rfl) (by kernel_rfl) ?_
      repeat (go_big_quiet_step (first | (with_reducible exact HC1.out _ _) | (with_reducible exact HC2.out _ _)))
      refine wpQuiet_nil ?_
      intro _ hw'
      obtain ⟨⟨dq, osq⟩, hw''⟩ := hw'
      subst hw''
      have HB1 := hid (below_regrown w dq osq)
      clear d2 d3 HC1 HC2
      go_wp2_with fail
      go_ret
      exact ⟨rfl, HB1.out⟩
    · subst hk1
      obtain ⟨⟨k2, v2, ds2, ks2⟩, rfl⟩ : ∃ a, ks1 = [a] := by
        match ks1, hn with
        | [a], _ => exact ⟨a, rfl⟩
      obtain ⟨b, o, rfl, hbl, hall⟩ := h4 (by simp)
      obtain ⟨ad2, cd2, ak2, ck2, q0, q1, q2, q3, hr2⟩ := hall 0 k2 v2 ds2 ks2 rfl
      clear hall h4
      simp only [Co.goods, Bool.and_eq_true] at hgs
      simp only [Nat.zero_mul, Nat.add_zero] at q0 q1 q2 q3
      have hbs : Co.bulks [.mk k2 v2 ds2 ks2] = 1 + Co.bulk (.mk k2 v2 ds2 ks2) + 0 := rfl
      have hzx := Co.text_small hgs.1 (by omega)
      have hzd := decs_size hcd
      have hc1 := fun d os => Calls.regrown_of (ih k2 v2 ds2 ks2 ad2 cd2 ak2 ck2 b o (grow (redrawn w d) os) (by omega) (by omega) hgs.1 (cell_regrown q0 d os) (cell_regrown q1 d os) (cell_regrown q2 d os) (cell_regrown q3 d os) (hr2.below (below_regrown _ d os)))
      have hc2 := fun d os => Calls.regrown_of (spec_List ds1 ads1 cds1 (grow (redrawn w d) os) hdl hcd (hds.below (below_regrown _ d os)))
      have ht : Co.text (Co.mk 10 v1 ds1 [.mk k2 v2 ds2 ks2]) = (((((⟨#[123]⟩ : ByteArray) ++ decs ds1) ++ (⟨#[58]⟩ : ByteArray)) ++ Co.text (.mk k2 v2 ds2 ks2)) ++ (⟨#[125]⟩ : ByteArray)) := by
        simp [Co.text, Co.texts, nodeTxt, fst1]
      rw [ht]
      clear ht
      replace x3 : w.cell? ⟨b1, o1 + 3, none⟩ = some (.slice (some ⟨b, o, none⟩) 1 cks1) := x3
      have d2 := cell_regrown x2
      have d3 := cell_regrown x3
      generalize hx : Co.text (.mk k2 v2 ds2 ks2) = x at hc1 hzx ⊢
      generalize hy : decs ds1 = y at hc2 hzd ⊢
      have hzy : y.size ≤ 48 := by omega
      have le1 : (⟨#[123]⟩ : ByteArray).size = 1 := rfl
      have le2 : (⟨#[58]⟩ : ByteArray).size = 1 := rfl
      have le3 : (⟨#[125]⟩ : ByteArray).size = 1 := rfl
      have ce1 : ((⟨#[123]⟩ : ByteArray) ++ y).size = 1 + y.size := by rw [ByteArray.size_append, le1]
      have ce2 : (((⟨#[123]⟩ : ByteArray) ++ y) ++ (⟨#[58]⟩ : ByteArray)).size = 1 + y.size + 1 := by rw [ByteArray.size_append, ce1, le2]
      have ce3 : ((((⟨#[123]⟩ : ByteArray) ++ y) ++ (⟨#[58]⟩ : ByteArray)) ++ x).size = 1 + y.size + 1 + x.size := by rw [ByteArray.size_append, ce2]
      have HC1 := hid hc1
      have HC2 := hid hc2
      clear hc1 hc2 hx hy hzd hr2 q0 q1 q2 q3 hbk hbs hgs ih hN hM x1 x2 x3 hds hcd hlv hok hn lov hiv hlb
      go_enter Tryd.func29, Tryd.ntmps29
      go_wp2_with fail
      refine wp_region_quiet_below (by kernel_rfl) (by kernel_rfl) ?_
      repeat (go_big_quiet_step (first | (with_reducible exact HC1.out _ _) | (with_reducible exact HC2.out _ _)))
      refine wpQuiet_nil ?_
      intro _ hw'
      obtain ⟨⟨dq, osq⟩, hw''⟩ := hw'
      subst hw''
      have HB1 := hid (below_regrown w dq osq)
      clear d2 d3 HC1 HC2
      go_wp2_with fail
      go_ret
      exact ⟨rfl, HB1.out⟩
theorem spec_text_all : ∀ N, SpTxW N
  | 0 => fun _ _ _ _ _ _ _ _ _ _ _ h => absurd h (by omega)
  | N + 1 => spec_text_step N (spec_text_all N)
end Go.Proofs.YtikhofcjkcbpbaaDoor
