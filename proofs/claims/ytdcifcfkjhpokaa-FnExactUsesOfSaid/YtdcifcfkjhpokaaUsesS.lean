/- Walks: the uses of a name, in the reference. -/
import Derived.Test.YtdcifcfkjhpokaaNm
import Derived.Test.YtdcifcfkjhpokaaTmBox
namespace Go.Proofs.Ytdcifcfkjhpokaa
open Go.ChangeShapes Go.WideShapes Go.ChangeAt Go.RowKit Go.BigFrame
open Go.Sort (grow)
set_option linter.unusedVariables false

theorem spec_l01BoolU (b : Bool) (w : World) : Calls Try.prog 100 #[.bool b] w fun e w' => e = .returned (.int .i64 (if b then 1 else 0)) ∧ w = w' := by
  cases b
  · go_enter Try.func100, Try.ntmps100
    go_wp2_with fail
    go_ret
    exact ⟨rfl, rfl⟩
  · go_enter Try.func100, Try.ntmps100
    go_wp2_with fail
    go_ret
    exact ⟨rfl, rfl⟩
def UsW (s : ByteArray) (N : Nat) : Prop := ∀ (k1 : Int) (u1 : Int) (n1 : ByteArray) (tk1 : Int) (tn1 : ByteArray) (tks1 : List Ty) (ns1 : List ByteArray) (ks1 : List Tm) (atks1 : Option Addr) (ctks1 : Nat) (ans1 : Option Addr) (cns1 : Nat) (aks1 : Option Addr) (cks1 : Nat) (b1 o1 : Nat) (w : World), Tm.bulk (Tm.mk k1 u1 n1 (Ty.mk tk1 tn1 tks1) ns1 ks1) < N → Tm.bulk (Tm.mk k1 u1 n1 (Ty.mk tk1 tn1 tks1) ns1 ks1) ≤ 1048576 → w.cell? ⟨b1, o1, none⟩ = some (.int .i64 k1) → w.cell? ⟨b1, o1 + 2, none⟩ = some (.string n1) → w.cell? ⟨b1, o1 + 6, none⟩ = some (.slice ans1 ns1.length cns1) → w.cell? ⟨b1, o1 + 7, none⟩ = some (.slice aks1 ks1.length cks1) → RdS w (Tm.d (Tm.mk k1 u1 n1 (Ty.mk tk1 tn1 tks1) ns1 ks1)) [.int .i64 k1, .int .i64 u1, .string n1, .int .i64 tk1, .string tn1, .slice atks1 tks1.length ctks1, .slice ans1 ns1.length cns1, .slice aks1 ks1.length cks1] →
  Calls Try.prog 59 #[.pointer (some ⟨b1, o1, none⟩), .string s] w fun e w' => e = .returned (.int .i64 (Tm.uses s (Tm.mk k1 u1 n1 (Ty.mk tk1 tn1 tks1) ns1 ks1))) ∧ Below w.heap.size w w'

set_option maxRecDepth 100000 in
set_option maxHeartbeats 4000000 in
theorem l05Uses_step (s : ByteArray) (N : Nat) (ih : UsW s N) : UsW s (N + 1) := by
  intro k1 u1 n1 tk1 tn1 tks1 ns1 ks1 atks1 ctks1 ans1 cns1 aks1 cks1 b1 o1 w hN hM x0 x2 x6 x7 hr
  by_cases h1 : k1 = 1
  case pos =>
    subst h1
    have HU := hid (Tm.uses_var s u1 n1 (Ty.mk tk1 tn1 tks1) ns1 ks1)
    clear ih hr hM hN
    by_cases hq : n1 = s
    case pos =>
      have hb := bytes_eq hq
      have HQ := hid hq
      clear hq
      go_enter Try.func59, Try.ntmps59
      go_wp2_with fail
      refine (spec_l01BoolU _ _).mono ?_
      rintro e w2 ⟨rfl, rfl⟩
      go_wp2_with fail
      go_ret
      exact ⟨ret_int (by rw [HU.out, if_pos HQ.out]), Below.refl _ _⟩
    case neg =>
      have hb := bytes_ne hq
      have HQ := hid hq
      clear hq
      go_enter Try.func59, Try.ntmps59
      go_wp2_with fail
      refine (spec_l01BoolU _ _).mono ?_
      rintro e w2 ⟨rfl, rfl⟩
      go_wp2_with fail
      go_ret
      exact ⟨ret_int (by rw [HU.out, if_neg HQ.out]), Below.refl _ _⟩
  case neg =>
  have g1 : (k1 == 1) = false := by simp [h1]
  have HU := hid (Tm.uses_mk s h1 u1 n1 (Ty.mk tk1 tn1 tks1) ns1 ks1)
  have hbk : Tm.bulks ks1 ≤ Tm.bulk (Tm.mk k1 u1 n1 (Ty.mk tk1 tn1 tks1) ns1 ks1) := by simp only [Tm.bulk]; omega
  have hfk := hr.fTm.2.2.2.2.2
  have hfn := hr.fTm.2.2.2.2.1
  obtain ⟨_, _, e, h2, h3, h4⟩ := hfk.eTm
  simp only [Value.slice.injEq, true_and] at e
  obtain ⟨rfl, rfl⟩ := e
  have hbc := Tm.bulks_length ks1
  have hlk : ks1.length ≤ 1048576 := by omega
  have IH := hid ih
  have H4 := hid h4
  have HK := hid hbk
  have HM := hid hM
  have HN := hid hN
  have HFN := hid hfn
  have hul := Tm.ulist_le s k1 n1 ns1 0 ks1
  have hlc := Tm.cnts_le ks1
  have HGET := hid (Tm.ulist_get s k1 n1 ns1 ks1 0)
  have HLEN := hid (Tm.ulist_length s k1 n1 ns1 ks1 0)
  generalize hl : Tm.ulist s k1 n1 ns1 0 ks1 = l at HU HGET HLEN hul
  have HSM := hid (fun j => sm_le k1 l 0 j hul.1)
  have HPO := hid hul.1
  have hls : l.sum ≤ 1048576 := by omega
  have X0 := hid x0
  have X2 := hid x2
  have X6 := hid x6
  have X7 := hid x7
  have XL := hid (World.block_lt_of_cell? _ _ x7)
  clear ih h4 hbk hfk hfn hr hM hN h1 hl hul hlc hbc x2 x6
  go_enter Try.func59, Try.ntmps59
  go_wp2_with fail
  clear x0 x7
  go_loopw [5, 6, 7] (fun a c i wr => ∃ (j : Nat) (x y : Int), j ≤ ks1.length ∧ i = .int .i64 j ∧ a = .int .i64 x ∧ c = .int .i64 y ∧ Hid (x = sumU k1 0 (l.take j)) ∧ Hid (y = maxU k1 0 (l.take j)) ∧ Below w.heap.size w wr) (fun _ _ i _ => ks1.length - (intOf i).toNat)
  case atStart => exact ⟨0, 0, 0, by omega, rfl, rfl, rfl, by simp [sumU, Hid], by simp [maxU, Hid], Below.refl _ _⟩
  case round =>
    obtain ⟨j, x, y, hj, rfl, rfl, rfl, HX, HY, hb⟩ := hrel
    have hsj := HSM.out j
    have hx0 : 0 ≤ x := by rw [HX.out]; exact hsj.1
    have hy0 : 0 ≤ y := by rw [HY.out]; exact hsj.2.1
    have hxy : x + y ≤ 1048576 := by have := HX.out; have := HY.out; omega
    have hxm : x ≤ 1048576 := by omega
    have hym : y ≤ 1048576 := by omega
    have z7 := (hb.cell (p := ⟨b1, o1 + 7, none⟩) XL.out).trans X7.out
    clear hsj
    by_cases hlt : j < ks1.length
    case neg =>
      obtain rfl : j = ks1.length := by omega
      have HE := hid (show x + y = Tm.uses s (Tm.mk k1 u1 n1 (Ty.mk tk1 tn1 tks1) ns1 ks1) by rw [HX.out, HY.out, HU.out, ← HLEN.out, List.take_length])
      go_wp2_with fail
      go_ret
      exact ⟨ret_int HE.out, hb⟩
    case pos =>
      obtain ⟨b, o, rfl, hbl, hall⟩ := H4.out (by omega)
      obtain ⟨t, ht⟩ : ∃ t, ks1[j]? = some t := ⟨_, List.getElem?_eq_getElem hlt⟩
      obtain ⟨k3, u3, n3, ⟨tk3, tn3, tks3⟩, ns3, ks3⟩ := t
      obtain ⟨atks3, ctks3, ans3, cns3, aks3, cks3, q0, q1, q2, q3, q4, q5, q6, q7, hrk⟩ := hall j k3 u3 n3 tk3 tn3 tks3 ns3 ks3 ht
      clear hall H4
      have hbg := Tm.bulk_get ks1 j _ ht
      have HB := hid hb
      have hget := HGET.out j _ ht
      rw [Nat.zero_add] at hget
      have hst := sumU_take k1 l 0 j _ hget
      have hmt := maxU_take k1 l 0 j _ HPO.out hget
      have hsm2 := HSM.out (j + 1)
      have hu := Tm.uses_le s (Tm.mk k3 u3 n3 (Ty.mk tk3 tn3 tks3) ns3 ks3)
      have hu2 := Tm.cnt_le (Tm.mk k3 u3 n3 (Ty.mk tk3 tn3 tks3) ns3 ks3)
      have hu3 : Tm.uses s (Tm.mk k3 u3 n3 (Ty.mk tk3 tn3 tks3) ns3 ks3) ≤ 1048577 := by have := HK.out; have := HM.out; omega
      have hu4 := hu.1
      have hbn := spec_binds k1 n1 ns1 ans1 cns1 b1 o1 j wr ((hb.cell (p := ⟨b1, o1, none⟩) XL.out).trans X0.out) ((hb.cell (p := ⟨b1, o1 + 2, none⟩) XL.out).trans X2.out) ((hb.cell (p := ⟨b1, o1 + 6, none⟩) XL.out).trans X6.out) (HFN.out.below hb)
      have hc := fun W (hW : Below w.heap.size w W) => IH.out k3 u3 n3 tk3 tn3 tks3 ns3 ks3 atks3 ctks3 ans3 cns3 aks3 cks3 b (o + j * 8) W (by have := HK.out; have := HN.out; omega) (by have := HK.out; have := HM.out; omega) ((hW.cell (p := ⟨b, o + j * 8, none⟩) hbl).trans q0) ((hW.cell (p := ⟨b, o + j * 8 + 2, none⟩) hbl).trans q2) ((hW.cell (p := ⟨b, o + j * 8 + 6, none⟩) hbl).trans q6) ((hW.cell (p := ⟨b, o + j * 8 + 7, none⟩) hbl).trans q7) (hrk.below hW)
      generalize hbo : boundOf k1 n1 ns1 j = bs at hst hmt hbn
      generalize huv : Tm.uses s (Tm.mk k3 u3 n3 (Ty.mk tk3 tn3 tks3) ns3 ks3) = uv at hst hmt hc hu3 hu4
      have HST := hid hst
      have HMT := hid hmt
      have HBN := hid hbn
      have HC := hid hc
      have HS2 := hid hsm2
      have HLH := hid (lastAt_has s bs)
      clear hst hmt hbn hc ht hrk q0 q1 q2 q3 q4 q5 q6 q7 hget hbg hu hu2 huv hbo hb hsm2
      by_cases hh : hasStr bs s = true
      case pos =>
        have gr : decide (0 ≤ lastAt s bs) = true := by rw [HLH.out, hh]
        have HH := hid hh
        clear hh
        go_wp2_with fail
        refine HBN.out.mono ?_
        rintro e w2 ⟨v, rfl, hs, hb2⟩
        have HL2 := hid (last_L _ _ s w2 hs)
        obtain ⟨a2, c2, rfl, -⟩ := hs
        have HB2 := hid (HB.out.trans (hb2.mono HB.out.size))
        generalize lastAt s bs = r at gr HL2
        clear hb2 HBN z7
        go_wp2_with fail
        refine HL2.out.mono ?_
        rintro e w3 ⟨rfl, rfl⟩
        go_wp2_with fail
        go_roundw
        case rel => exact ⟨j + 1, x, y, by omega, by go_num, rfl, rfl, hid (by rw [HST.out, ← HX.out]; simp [useOf, HH.out]), hid (by rw [HMT.out, ← HY.out]; simp [useOf, HH.out]; omega), HB2.out⟩
        case measure => simp [intOf]; omega
      case neg =>
        have HH := hid ((Bool.not_eq_true _).mp hh)
        have gr : decide (0 ≤ lastAt s bs) = false := by rw [HLH.out, HH.out]
        have HUV := hid (show useOf bs s uv = uv by rw [useOf, HH.out]; rfl)
        rw [HUV.out] at HST HMT
        clear hh
        by_cases j0 : 0 < j
        case neg =>
          have e0 : decide (0 < j) = false := decide_eq_false j0
          have e0i : decide ((0 : Int) < (j : Int)) = false := decide_eq_false (by omega)
          have HBR := hid (show isBr k1 j = false by simp [isBr, *])
          rw [Nat.zero_add, HBR.out] at HST HMT
          have hst2 := HST.out
          have hmt2 := HMT.out
          rw [if_neg (by simp)] at hst2 hmt2
          have HST2 := hid (show x + uv = sumU k1 0 (l.take (j + 1)) by have := HX.out; omega)
          have HMT2 := hid (show y = maxU k1 0 (l.take (j + 1)) by have := HY.out; omega)
          have hle : x + uv ≤ 1048576 := by have := HST2.out; have := HMT2.out; have := HS2.out; omega
          clear hst2 hmt2 HST HMT j0
          go_wp2_with fail
          refine HBN.out.mono ?_
          rintro e w2 ⟨v, rfl, hs, hb2⟩
          have HL2 := hid (last_L _ _ s w2 hs)
          obtain ⟨a2, c2, rfl, -⟩ := hs
          have HB2 := hid (HB.out.trans (hb2.mono HB.out.size))
          have z7b := (HB2.out.cell (p := ⟨b1, o1 + 7, none⟩) XL.out).trans X7.out
          generalize lastAt s bs = r at gr HL2
          clear hb2 HBN z7
          go_wp2_with fail
          refine HL2.out.mono ?_
          rintro e w3 ⟨rfl, rfl⟩
          go_wp2_with fail
          refine (HC.out _ HB2.out).mono ?_
          rintro e w3 ⟨rfl, hb3⟩
          have HB3 := hid (HB2.out.trans (hb3.mono HB2.out.size))
          have z0 := (HB3.out.cell (p := ⟨b1, o1, none⟩) XL.out).trans X0.out
          clear hb3 z7b HC
          go_wp2_with fail
          go_roundw
          case rel => exact ⟨j + 1, _, _, by omega, by go_num, rfl, rfl, HST2, HMT2, HB3.out⟩
          case measure => simp [intOf]; omega
        case pos =>
        have e0 : decide (0 < j) = true := decide_eq_true j0
        have e0i : decide ((0 : Int) < (j : Int)) = true := decide_eq_true (by omega)
        by_cases k9 : k1 = 9
        case pos =>
          have g9 : (k1 == 9) = true := by simp [k9]
          have HBR := hid (show isBr k1 j = true by simp [isBr, *])
          rw [Nat.zero_add, HBR.out] at HST HMT
          have hst2 := HST.out
          have hmt2 := HMT.out
          rw [if_pos rfl] at hst2 hmt2
          have HST2 := hid (show x = sumU k1 0 (l.take (j + 1)) by have := HX.out; omega)
          have HMT2 := hid (show max y uv = maxU k1 0 (l.take (j + 1)) by have := HY.out; omega)
          have hle : max y uv ≤ 1048576 := by have := HST2.out; have := HMT2.out; have := HS2.out; omega
          clear hst2 hmt2 HST HMT j0 k9
          go_wp2_with fail
          refine HBN.out.mono ?_
          rintro e w2 ⟨v, rfl, hs, hb2⟩
          have HL2 := hid (last_L _ _ s w2 hs)
          obtain ⟨a2, c2, rfl, -⟩ := hs
          have HB2 := hid (HB.out.trans (hb2.mono HB.out.size))
          have z7b := (HB2.out.cell (p := ⟨b1, o1 + 7, none⟩) XL.out).trans X7.out
          generalize lastAt s bs = r at gr HL2
          clear hb2 HBN z7
          go_wp2_with fail
          refine HL2.out.mono ?_
          rintro e w3 ⟨rfl, rfl⟩
          go_wp2_with fail
          refine (HC.out _ HB2.out).mono ?_
          rintro e w3 ⟨rfl, hb3⟩
          have HB3 := hid (HB2.out.trans (hb3.mono HB2.out.size))
          have z0 := (HB3.out.cell (p := ⟨b1, o1, none⟩) XL.out).trans X0.out
          clear hb3 z7b HC
          go_wp2_with fail
          refine (spec_l00Max _ _ _).mono ?_
          rintro e w4 ⟨rfl, rfl⟩
          go_wp2_with fail
          go_roundw
          case rel => exact ⟨j + 1, _, _, by omega, by go_num, rfl, rfl, HST2, HMT2, HB3.out⟩
          case measure => simp [intOf]; omega
        case neg =>
        have g9 : (k1 == 9) = false := by simp [k9]
        by_cases k11 : k1 = 11
        case pos =>
          have g11 : (k1 == 11) = true := by simp [k11]
          have HBR := hid (show isBr k1 j = true by simp [isBr, *])
          rw [Nat.zero_add, HBR.out] at HST HMT
          have hst2 := HST.out
          have hmt2 := HMT.out
          rw [if_pos rfl] at hst2 hmt2
          have HST2 := hid (show x = sumU k1 0 (l.take (j + 1)) by have := HX.out; omega)
          have HMT2 := hid (show max y uv = maxU k1 0 (l.take (j + 1)) by have := HY.out; omega)
          have hle : max y uv ≤ 1048576 := by have := HST2.out; have := HMT2.out; have := HS2.out; omega
          clear hst2 hmt2 HST HMT j0 k9 k11
          go_wp2_with fail
          refine HBN.out.mono ?_
          rintro e w2 ⟨v, rfl, hs, hb2⟩
          have HL2 := hid (last_L _ _ s w2 hs)
          obtain ⟨a2, c2, rfl, -⟩ := hs
          have HB2 := hid (HB.out.trans (hb2.mono HB.out.size))
          have z7b := (HB2.out.cell (p := ⟨b1, o1 + 7, none⟩) XL.out).trans X7.out
          generalize lastAt s bs = r at gr HL2
          clear hb2 HBN z7
          go_wp2_with fail
          refine HL2.out.mono ?_
          rintro e w3 ⟨rfl, rfl⟩
          go_wp2_with fail
          refine (HC.out _ HB2.out).mono ?_
          rintro e w3 ⟨rfl, hb3⟩
          have HB3 := hid (HB2.out.trans (hb3.mono HB2.out.size))
          have z0 := (HB3.out.cell (p := ⟨b1, o1, none⟩) XL.out).trans X0.out
          clear hb3 z7b HC
          go_wp2_with fail
          refine (spec_l00Max _ _ _).mono ?_
          rintro e w4 ⟨rfl, rfl⟩
          go_wp2_with fail
          go_roundw
          case rel => exact ⟨j + 1, _, _, by omega, by go_num, rfl, rfl, HST2, HMT2, HB3.out⟩
          case measure => simp [intOf]; omega
        case neg =>
          have g11 : (k1 == 11) = false := by simp [k11]
          have HBR := hid (show isBr k1 j = false by simp [isBr, *])
          rw [Nat.zero_add, HBR.out] at HST HMT
          have hst2 := HST.out
          have hmt2 := HMT.out
          rw [if_neg (by simp)] at hst2 hmt2
          have HST2 := hid (show x + uv = sumU k1 0 (l.take (j + 1)) by have := HX.out; omega)
          have HMT2 := hid (show y = maxU k1 0 (l.take (j + 1)) by have := HY.out; omega)
          have hle : x + uv ≤ 1048576 := by have := HST2.out; have := HMT2.out; have := HS2.out; omega
          clear hst2 hmt2 HST HMT j0 k9 k11
          go_wp2_with fail
          refine HBN.out.mono ?_
          rintro e w2 ⟨v, rfl, hs, hb2⟩
          have HL2 := hid (last_L _ _ s w2 hs)
          obtain ⟨a2, c2, rfl, -⟩ := hs
          have HB2 := hid (HB.out.trans (hb2.mono HB.out.size))
          have z7b := (HB2.out.cell (p := ⟨b1, o1 + 7, none⟩) XL.out).trans X7.out
          generalize lastAt s bs = r at gr HL2
          clear hb2 HBN z7
          go_wp2_with fail
          refine HL2.out.mono ?_
          rintro e w3 ⟨rfl, rfl⟩
          go_wp2_with fail
          refine (HC.out _ HB2.out).mono ?_
          rintro e w3 ⟨rfl, hb3⟩
          have HB3 := hid (HB2.out.trans (hb3.mono HB2.out.size))
          have z0 := (HB3.out.cell (p := ⟨b1, o1, none⟩) XL.out).trans X0.out
          clear hb3 z7b HC
          go_wp2_with fail
          go_roundw
          case rel => exact ⟨j + 1, _, _, by omega, by go_num, rfl, rfl, HST2, HMT2, HB3.out⟩
          case measure => simp [intOf]; omega
theorem l05Uses_all (s : ByteArray) : ∀ N, UsW s N
  | 0 => fun _ _ _ _ _ _ _ _ _ _ _ _ _ _ _ _ _  h => absurd h (by omega)
  | N + 1 => l05Uses_step s N (l05Uses_all s N)
theorem spec_UsesOf (k1 : Int) (u1 : Int) (n1 : ByteArray) (tk1 : Int) (tn1 : ByteArray) (tks1 : List Ty) (ns1 : List ByteArray) (ks1 : List Tm) (atks1 : Option Addr) (ctks1 : Nat) (ans1 : Option Addr) (cns1 : Nat) (aks1 : Option Addr) (cks1 : Nat) (s : ByteArray) (w : World) (hM : Tm.bulk (Tm.mk k1 u1 n1 (Ty.mk tk1 tn1 tks1) ns1 ks1) ≤ 1048576) (hr : RdS w (Tm.d (Tm.mk k1 u1 n1 (Ty.mk tk1 tn1 tks1) ns1 ks1)) [.int .i64 k1, .int .i64 u1, .string n1, .int .i64 tk1, .string tn1, .slice atks1 tks1.length ctks1, .slice ans1 ns1.length cns1, .slice aks1 ks1.length cks1]) :
    Calls Try.prog 22 #[.agg #[.int .i64 k1, .int .i64 u1, .string n1, .int .i64 tk1, .string tn1, .slice atks1 tks1.length ctks1, .slice ans1 ns1.length cns1, .slice aks1 ks1.length cks1], .string s] w fun e w' => e = .returned (.int .i64 (usesN (Tm.mk k1 u1 n1 (Ty.mk tk1 tn1 tks1) ns1 ks1) s)) ∧ Below w.heap.size w w' := by
  have hB := (Below.refl w.heap.size w).alloc (Nat.le_refl _) (.cells #[.int .i64 k1, .int .i64 u1, .string n1, .int .i64 tk1, .string tn1, .slice atks1 tks1.length ctks1, .slice ans1 ns1.length cns1, .slice aks1 ks1.length cks1] 36)
  have HX0 := hid ((Boxes.nil w).alloc #[.int .i64 k1, .int .i64 u1, .string n1, .int .i64 tk1, .string tn1, .slice atks1 tks1.length ctks1, .slice ans1 ns1.length cns1, .slice aks1 ks1.length cks1] 36 (0, 0))
  have hrb := hr.below hB
  have hc := spec_l03Ok k1 u1 n1 tk1 tn1 tks1 ns1 ks1 atks1 ctks1 ans1 cns1 aks1 cks1 w.heap.size 0 (w.alloc (.cells #[.int .i64 k1, .int .i64 u1, .string n1, .int .i64 tk1, .string tn1, .slice atks1 tks1.length ctks1, .slice ans1 ns1.length cns1, .slice aks1 ks1.length cks1] 36)) hM (HX0.out.at 0 0 rfl rfl) (HX0.out.at 0 1 rfl rfl) (HX0.out.at 0 2 rfl rfl) (HX0.out.at 0 3 rfl rfl) (HX0.out.at 0 4 rfl rfl) (HX0.out.at 0 5 rfl rfl) (HX0.out.at 0 6 rfl rfl) (HX0.out.at 0 7 rfl rfl) hrb
  have hs := fun W (hW : Below (w.alloc (.cells #[.int .i64 k1, .int .i64 u1, .string n1, .int .i64 tk1, .string tn1, .slice atks1 tks1.length ctks1, .slice ans1 ns1.length cns1, .slice aks1 ks1.length cks1] 36)).heap.size (w.alloc (.cells #[.int .i64 k1, .int .i64 u1, .string n1, .int .i64 tk1, .string tn1, .slice atks1 tks1.length ctks1, .slice ans1 ns1.length cns1, .slice aks1 ks1.length cks1] 36)) W) => l05Uses_all s (Tm.bulk (Tm.mk k1 u1 n1 (Ty.mk tk1 tn1 tks1) ns1 ks1) + 1) k1 u1 n1 tk1 tn1 tks1 ns1 ks1 atks1 ctks1 ans1 cns1 aks1 cks1 w.heap.size 0 W (by omega) hM ((HX0.out.below hW).at 0 0 rfl rfl) ((HX0.out.below hW).at 0 2 rfl rfl) ((HX0.out.below hW).at 0 6 rfl rfl) ((HX0.out.below hW).at 0 7 rfl rfl) (hrb.below hW)
  have HB := hid hB
  by_cases hok : Tm.ok (Tm.mk k1 u1 n1 (Ty.mk tk1 tn1 tks1) ns1 ks1) = true
  case neg =>
    have HF := hid (usesN_no s ((Bool.not_eq_true _).mp hok))
    rw [(Bool.not_eq_true _).mp hok] at hc
    have HC := hid hc
    clear hc hok hM hr hrb hB hs HX0
    go_enter Try.func22, Try.ntmps22
    go_wp2_with fail
    refine HC.out.mono ?_
    rintro e w1 ⟨rfl, hb⟩
    have HB1 := hid (HB.out.trans (hb.mono HB.out.size))
    clear hb
    go_wp2_with fail
    go_ret
    exact ⟨ret_int HF.out.symm, HB1.out⟩
  case pos =>
    have HF := hid (usesN_yes s hok)
    rw [hok] at hc
    have HC := hid hc
    have HS := hid hs
    clear hc hok hM hr hrb hB hs HX0
    go_enter Try.func22, Try.ntmps22
    go_wp2_with fail
    refine HC.out.mono ?_
    rintro e w1 ⟨rfl, hb⟩
    have HB1 := hid (HB.out.trans (hb.mono HB.out.size))
    have HSS := hid (HS.out _ hb)
    clear hb HS
    go_wp2_with fail
    refine HSS.out.mono ?_
    rintro e w2 ⟨rfl, hb⟩
    have HB2 := hid (HB1.out.trans (hb.mono HB1.out.size))
    clear hb
    go_wp2_with fail
    go_ret
    exact ⟨ret_int HF.out.symm, HB2.out⟩
end Go.Proofs.Ytdcifcfkjhpokaa
