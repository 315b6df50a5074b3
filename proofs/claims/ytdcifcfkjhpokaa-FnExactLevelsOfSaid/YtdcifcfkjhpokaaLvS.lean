/- Walks: the levels of a name's free occurrences, in the reference. -/
import Derived.Test.YtdcifcfkjhpokaaLvP
import Derived.Test.YtdcifcfkjhpokaaNm
import Derived.Test.YtdcifcfkjhpokaaTmValid
import Derived.Test.YtdcifcfkjhpokaaKeep
import Derived.Test.YtdcifcfkjhpokaaToSc
namespace Go.Proofs.Ytdcifcfkjhpokaa
open Go.ChangeShapes Go.WideShapes Go.ChangeAt Go.RowKit Go.BigFrame
open Go.Sort (grow)
set_option linter.unusedVariables false

theorem infoL64 : (Try.prog.info? 2).map (fun i => (i.zero, i.size, i.bytes)) = some (some (.int .i64 0), 1, 8) := by kernel_rfl
theorem GrowNow.slice {te : TypeId} {w0 w w' : World} {zs : List Int} {v : Value} (h : GrowNow te w0 w zs v w') : ∃ a c, v = .slice a zs.length c := by
  rcases h.1.2 with ⟨rfl, hn⟩ | ⟨g, cap, cur, rfl, _⟩
  · exact ⟨none, 0, by rw [hn]⟩
  · exact ⟨some ⟨g, 0, none⟩, cap, rfl⟩
def LvW (s : ByteArray) (N : Nat) : Prop := ∀ (w0 : World) (k1 : Int) (u1 : Int) (n1 : ByteArray) (tk1 : Int) (tn1 : ByteArray) (tks1 : List Ty) (ns1 : List ByteArray) (ks1 : List Tm) (atks1 : Option Addr) (ctks1 : Nat) (ans1 : Option Addr) (cns1 : Nat) (aks1 : Option Addr) (cks1 : Nat) (b1 o1 : Nat) (l : Int) (v : Value) (xs : List Int) (w : World), Tm.bulk (Tm.mk k1 u1 n1 (Ty.mk tk1 tn1 tks1) ns1 ks1) < N → Tm.bulk (Tm.mk k1 u1 n1 (Ty.mk tk1 tn1 tks1) ns1 ks1) ≤ 1048576 → 0 ≤ l → l + Tm.bulk (Tm.mk k1 u1 n1 (Ty.mk tk1 tn1 tks1) ns1 ks1) ≤ 4194304 → xs.length + 1 + Tm.bulk (Tm.mk k1 u1 n1 (Ty.mk tk1 tn1 tks1) ns1 ks1) ≤ 4194304 → w0.cell? ⟨b1, o1, none⟩ = some (.int .i64 k1) → w0.cell? ⟨b1, o1 + 2, none⟩ = some (.string n1) → w0.cell? ⟨b1, o1 + 6, none⟩ = some (.slice ans1 ns1.length cns1) → w0.cell? ⟨b1, o1 + 7, none⟩ = some (.slice aks1 ks1.length cks1) → RdS w0 (Tm.d (Tm.mk k1 u1 n1 (Ty.mk tk1 tn1 tks1) ns1 ks1)) [.int .i64 k1, .int .i64 u1, .string n1, .int .i64 tk1, .string tn1, .slice atks1 tks1.length ctks1, .slice ans1 ns1.length cns1, .slice aks1 ks1.length cks1] → Below w0.heap.size w0 w → w.ownsRow w0.heap.size 2 1 v xs.length (xs.map (Value.int .i64)) →
  Calls Try.prog 68 #[.pointer (some ⟨b1, o1, none⟩), .string s, .int .i64 l, v] w (GrowPost 2 w0 w (xs ++ Tm.levs s (Tm.mk k1 u1 n1 (Ty.mk tk1 tn1 tks1) ns1 ks1) l))
set_option maxRecDepth 100000 in
set_option maxHeartbeats 4000000 in
theorem l05At_step (s : ByteArray) (N : Nat) (ih : LvW s N) : LvW s (N + 1) := by
  obtain ⟨i0, hi, hz0, hz1, hz2⟩ := info_parts infoL64
  intro w0 k1 u1 n1 tk1 tn1 tks1 ns1 ks1 atks1 ctks1 ans1 cns1 aks1 cks1 b1 o1 l v xs w hN hM hl0 hlM hxM x0 x2 x6 x7 hr hb0 hown
  have y0 := (hb0.cell (p := ⟨b1, o1, none⟩) (World.block_lt_of_cell? _ _ x0)).trans x0
  have y2 := (hb0.cell (p := ⟨b1, o1 + 2, none⟩) (World.block_lt_of_cell? _ _ x2)).trans x2
  have y7 := (hb0.cell (p := ⟨b1, o1 + 7, none⟩) (World.block_lt_of_cell? _ _ x7)).trans x7
  have hsz := hb0.size
  have HB0 := hid hb0
  have HO := hid hown
  clear hb0 hown
  by_cases h1 : k1 = 1
  case pos =>
    subst h1
    have HE := hid (Tm.levs_var s u1 n1 (Ty.mk tk1 tn1 tks1) ns1 ks1 l)
    by_cases hq : n1 = s
    case pos =>
      have hb := bytes_eq hq
      have HF := hid (HE.out.trans (if_pos hq))
      have HI := hid hi
      clear x0 x2 x6 x7 hr ih hN hlM HE y7 hi hq
      go_enter Try.func68, Try.ntmps68
      go_wp2_with (at_builtin; refine wpList_append_own _ rfl _ _ 48 rfl w0.heap.size 2 i0 (.int .i64 0) 1 8 Try.underlying48 HI.out hz0 hz1 hz2 rfl (by decide) _ _ _ rfl (HO.out.alloc _) ⟨w.heap.size, 0, none⟩ 1 1 [.int .i64 l] rfl rfl ?c1 ?c2 ?c3 ?c4 ?c5 ?_)
      case c1 => exact one_new _ _ _
      case c2 => intro x hx; simp at hx; subst hx; rfl
      case c3 => unfold maxLen; omega
      case c4 => omega
      case c5 => simp; omega
      intro v' w3 hown3 hgrow3 hnil3
      have HR := hid (grow_one HB0.out HO.out hown3 hgrow3)
      clear hown3 hgrow3 hnil3
      go_wp2_with fail
      go_ret
      rw [HF.out]
      exact HR.out
    case neg =>
      have hb := bytes_ne hq
      have HF := hid (HE.out.trans (if_neg hq))
      clear hq x0 x2 x6 x7 hr ih hN HE y7 hi
      go_enter Try.func68, Try.ntmps68
      go_wp2_with fail
      go_ret
      rw [HF.out, List.append_nil]
      exact ⟨v, rfl, HO.out, HB0.out, KeepT.refl _ _⟩
  case neg =>
  have g1 : (k1 == 1) = false := by simp [h1]
  have HF := hid (Tm.levs_mk s h1 u1 n1 (Ty.mk tk1 tn1 tks1) ns1 ks1 l)
  have hbk : Tm.bulks ks1 ≤ Tm.bulk (Tm.mk k1 u1 n1 (Ty.mk tk1 tn1 tks1) ns1 ks1) := by simp only [Tm.bulk]; omega
  have hfk := hr.fTm.2.2.2.2.2
  have hfn := hr.fTm.2.2.2.2.1
  obtain ⟨_, _, e, h2, h3, h4⟩ := hfk.eTm
  simp only [Value.slice.injEq, true_and] at e
  obtain ⟨rfl, rfl⟩ := e
  have hbc := Tm.bulks_length ks1
  have hlk : ks1.length ≤ 1048576 := by omega
  have IH := hid ih
  have H4 := hid h4
  have HK := hid hbk
  have HM := hid hM
  have HN := hid hN
  have HFN := hid hfn
  have HLM := hid hlM
  have HXM := hid hxM
  have hlm : l ≤ 4194304 := by omega
  have X0 := hid x0
  have X2 := hid x2
  have X6 := hid x6
  have X7 := hid x7
  have XL := hid (World.block_lt_of_cell? _ _ x7)
  clear ih hr h4 hbk hN hM hlM hxM x0 x2 x6 x7 y2 h1 hbc hi hz0 hz1 hz2 hfk hfn
  by_cases h6 : k1 = 6
  case pos =>
    have g6 : (k1 == 6) = true := by simp [h6]
    have HQ := hid (show l + isBox k1 = (l + 1) by simp [isBox, h6])
    rw [HQ.out] at HF
    clear h6
    go_enter Try.func68, Try.ntmps68
    go_wp2_with fail
    go_loopw [3, 9] (fun v n wr => ∃ (j : Nat) (v0 : Value), j ≤ ks1.length ∧ n = .int .i64 j ∧ v0 = v ∧ GrowNow 2 w0 w (xs ++ Tm.levss s k1 n1 ns1 0 (ks1.take j) (l + 1)) v0 wr) (fun _ n _ => ks1.length - (intOf n).toNat)
    case atStart => exact ⟨0, _, by omega, rfl, rfl, by simpa [Tm.levss] using HO.out, HB0.out, KeepT.refl _ _⟩
    case round =>
      obtain ⟨j, v0, hj, rfl, rfl, hgn⟩ := hrel
      have hb := hgn.2.1
      have HGN := hid hgn
      have z7 := (hb.cell (p := ⟨b1, o1 + 7, none⟩) XL.out).trans X7.out
      have HBW := hid hb
      clear hgn hb y0 y7
      by_cases hlt : j < ks1.length
      case neg =>
        have hlv : Tm.levss s k1 n1 ns1 0 (ks1.take j) (l + 1) = Tm.levss s k1 n1 ns1 0 ks1 (l + 1) := by rw [List.take_of_length_le (by omega)]
        have HP := hid (show GrowPost 2 w0 w (xs ++ Tm.levs s (Tm.mk k1 u1 n1 (Ty.mk tk1 tn1 tks1) ns1 ks1) l) (.returned v0) wr from ⟨_, rfl, by rw [HF.out, ← hlv]; exact HGN.out⟩)
        clear hlv
        go_wp2_with fail
        go_ret
        exact HP.out
      case pos =>
        obtain ⟨b, o, rfl, hbl, hall⟩ := H4.out (by omega)
        obtain ⟨t, ht⟩ : ∃ t, ks1[j]? = some t := ⟨_, List.getElem?_eq_getElem hlt⟩
        obtain ⟨k3, u3, n3, ⟨tk3, tn3, tks3⟩, ns3, ks3⟩ := t
        obtain ⟨atks3, ctks3, ans3, cns3, aks3, cks3, q0, q1, q2, q3, q4, q5, q6, q7, hrk⟩ := hall j k3 u3 n3 tk3 tn3 tks3 ns3 ks3 ht
        clear hall H4
        have hbg := Tm.bulk_get ks1 j _ ht
        have hlt2 := Tm.levss_take s k1 n1 ns1 ks1 0 j _ (l + 1) ht
        rw [Nat.zero_add] at hlt2
        have hll := Tm.levss_len s k1 n1 ns1 0 (ks1.take j) (l + 1)
        have hbt : Tm.bulks (ks1.take j) + 1 + Tm.bulk (Tm.mk k3 u3 n3 (Ty.mk tk3 tn3 tks3) ns3 ks3) ≤ Tm.bulks ks1 := by have h1 := Tm.bulks_take ks1 j _ ht; have h2 := Tm.bulks_le ks1 (j + 1); omega
        have hxl : (xs ++ Tm.levss s k1 n1 ns1 0 (ks1.take j) (l + 1)).length + 1 + Tm.bulk (Tm.mk k3 u3 n3 (Ty.mk tk3 tn3 tks3) ns3 ks3) ≤ 4194304 := by have := HK.out; have := HXM.out; rw [List.length_append]; omega
        have hbn := spec_binds k1 n1 ns1 ans1 cns1 b1 o1 j wr ((HBW.out.cell (p := ⟨b1, o1, none⟩) XL.out).trans X0.out) ((HBW.out.cell (p := ⟨b1, o1 + 2, none⟩) XL.out).trans X2.out) ((HBW.out.cell (p := ⟨b1, o1 + 6, none⟩) XL.out).trans X6.out) (HFN.out.below HBW.out)
        have hc := fun W hW ho => IH.out w0 k3 u3 n3 tk3 tn3 tks3 ns3 ks3 atks3 ctks3 ans3 cns3 aks3 cks3 b (o + j * 8) (l + 1) v0 (xs ++ Tm.levss s k1 n1 ns1 0 (ks1.take j) (l + 1)) W (by have := HK.out; have := HN.out; omega) (by have := HK.out; have := HM.out; omega) (by omega) (by have := HK.out; have := HLM.out; omega) hxl q0 q2 q6 q7 hrk hW ho
        rw [List.append_assoc] at hc
        generalize hbo : boundOf k1 n1 ns1 j = bs at hlt2 hbn
        have HLT := hid hlt2
        have HBN := hid hbn
        have HC := hid hc
        have HLH := hid (lastAt_has s bs)
        clear hlt2 hbn hc ht hrk q0 q1 q2 q3 q4 q5 q6 q7 hbg hll hbt hxl hbo
        by_cases hh : hasStr bs s = true
        case pos =>
          have gr : decide (lastAt s bs < 0) = false := by have := HLH.out; rw [hh] at this; simp at this ⊢; omega
          have HV := hid (show offOf bs s (Tm.levs s (Tm.mk k3 u3 n3 (Ty.mk tk3 tn3 tks3) ns3 ks3) (l + 1)) = [] by rw [offOf, hh]; rfl)
          clear hh
          go_wp2_with fail
          refine HBN.out.mono ?_
          rintro e w2 ⟨vb, rfl, hs, hb2⟩
          have HLQ := hid (last_L _ _ s w2 hs)
          obtain ⟨a2, c2, rfl, -⟩ := hs
          have HG2 := hid (HGN.out.below hb2)
          generalize lastAt s bs = r at gr HLQ
          clear hb2 HBN z7
          go_wp2_with fail
          refine HLQ.out.mono ?_
          rintro e w3 ⟨rfl, rfl⟩
          go_wp2_with fail
          go_roundw
          case rel => exact ⟨j + 1, _, by omega, by go_num, rfl, by rw [HLT.out, HV.out, List.append_nil]; exact HG2.out⟩
          case measure => simp [intOf]; omega
        case neg =>
          have hhf := (Bool.not_eq_true _).mp hh
          have gr : decide (lastAt s bs < 0) = true := by have := HLH.out; rw [hhf] at this; simp at this ⊢; omega
          have HV := hid (show offOf bs s (Tm.levs s (Tm.mk k3 u3 n3 (Ty.mk tk3 tn3 tks3) ns3 ks3) (l + 1)) = Tm.levs s (Tm.mk k3 u3 n3 (Ty.mk tk3 tn3 tks3) ns3 ks3) (l + 1) by rw [offOf, hhf]; rfl)
          clear hh hhf
          go_wp2_with fail
          refine HBN.out.mono ?_
          rintro e w2 ⟨vb, rfl, hs, hb2⟩
          have HLQ := hid (last_L _ _ s w2 hs)
          obtain ⟨a2, c2, rfl, -⟩ := hs
          have HG2 := hid (HGN.out.below hb2)
          have z7b := (HG2.out.2.1.cell (p := ⟨b1, o1 + 7, none⟩) XL.out).trans X7.out
          generalize lastAt s bs = r at gr HLQ
          clear hb2 HBN z7
          go_wp2_with fail
          refine HLQ.out.mono ?_
          rintro e w3 ⟨rfl, rfl⟩
          go_wp2_with fail
          refine (HC.out _ HG2.out.2.1 HG2.out.1).mono ?_
          rintro e w4 ⟨v4, rfl, hg4⟩
          have HG4 := hid hg4
          clear hg4 z7b
          go_wp2_with fail
          go_roundw
          case rel => exact ⟨j + 1, _, by omega, by go_num, rfl, by rw [HLT.out, HV.out]; exact HG2.out.step HG4.out⟩
          case measure => simp [intOf]; omega
  case neg =>
    have g6 : (k1 == 6) = false := by simp [h6]
    have HQ := hid (show l + isBox k1 = l by simp [isBox, h6])
    rw [HQ.out] at HF
    clear h6
    go_enter Try.func68, Try.ntmps68
    go_wp2_with fail
    go_loopw [3, 9] (fun v n wr => ∃ (j : Nat) (v0 : Value), j ≤ ks1.length ∧ n = .int .i64 j ∧ v0 = v ∧ GrowNow 2 w0 w (xs ++ Tm.levss s k1 n1 ns1 0 (ks1.take j) l) v0 wr) (fun _ n _ => ks1.length - (intOf n).toNat)
    case atStart => exact ⟨0, _, by omega, rfl, rfl, by simpa [Tm.levss] using HO.out, HB0.out, KeepT.refl _ _⟩
    case round =>
      obtain ⟨j, v0, hj, rfl, rfl, hgn⟩ := hrel
      have hb := hgn.2.1
      have HGN := hid hgn
      have z7 := (hb.cell (p := ⟨b1, o1 + 7, none⟩) XL.out).trans X7.out
      have HBW := hid hb
      clear hgn hb y0 y7
      by_cases hlt : j < ks1.length
      case neg =>
        have hlv : Tm.levss s k1 n1 ns1 0 (ks1.take j) l = Tm.levss s k1 n1 ns1 0 ks1 l := by rw [List.take_of_length_le (by omega)]
        have HP := hid (show GrowPost 2 w0 w (xs ++ Tm.levs s (Tm.mk k1 u1 n1 (Ty.mk tk1 tn1 tks1) ns1 ks1) l) (.returned v0) wr from ⟨_, rfl, by rw [HF.out, ← hlv]; exact HGN.out⟩)
        clear hlv
        go_wp2_with fail
        go_ret
        exact HP.out
      case pos =>
        obtain ⟨b, o, rfl, hbl, hall⟩ := H4.out (by omega)
        obtain ⟨t, ht⟩ : ∃ t, ks1[j]? = some t := ⟨_, List.getElem?_eq_getElem hlt⟩
        obtain ⟨k3, u3, n3, ⟨tk3, tn3, tks3⟩, ns3, ks3⟩ := t
        obtain ⟨atks3, ctks3, ans3, cns3, aks3, cks3, q0, q1, q2, q3, q4, q5, q6, q7, hrk⟩ := hall j k3 u3 n3 tk3 tn3 tks3 ns3 ks3 ht
        clear hall H4
        have hbg := Tm.bulk_get ks1 j _ ht
        have hlt2 := Tm.levss_take s k1 n1 ns1 ks1 0 j _ l ht
        rw [Nat.zero_add] at hlt2
        have hll := Tm.levss_len s k1 n1 ns1 0 (ks1.take j) l
        have hbt : Tm.bulks (ks1.take j) + 1 + Tm.bulk (Tm.mk k3 u3 n3 (Ty.mk tk3 tn3 tks3) ns3 ks3) ≤ Tm.bulks ks1 := by have h1 := Tm.bulks_take ks1 j _ ht; have h2 := Tm.bulks_le ks1 (j + 1); omega
        have hxl : (xs ++ Tm.levss s k1 n1 ns1 0 (ks1.take j) l).length + 1 + Tm.bulk (Tm.mk k3 u3 n3 (Ty.mk tk3 tn3 tks3) ns3 ks3) ≤ 4194304 := by have := HK.out; have := HXM.out; rw [List.length_append]; omega
        have hbn := spec_binds k1 n1 ns1 ans1 cns1 b1 o1 j wr ((HBW.out.cell (p := ⟨b1, o1, none⟩) XL.out).trans X0.out) ((HBW.out.cell (p := ⟨b1, o1 + 2, none⟩) XL.out).trans X2.out) ((HBW.out.cell (p := ⟨b1, o1 + 6, none⟩) XL.out).trans X6.out) (HFN.out.below HBW.out)
        have hc := fun W hW ho => IH.out w0 k3 u3 n3 tk3 tn3 tks3 ns3 ks3 atks3 ctks3 ans3 cns3 aks3 cks3 b (o + j * 8) l v0 (xs ++ Tm.levss s k1 n1 ns1 0 (ks1.take j) l) W (by have := HK.out; have := HN.out; omega) (by have := HK.out; have := HM.out; omega) (by omega) (by have := HK.out; have := HLM.out; omega) hxl q0 q2 q6 q7 hrk hW ho
        rw [List.append_assoc] at hc
        generalize hbo : boundOf k1 n1 ns1 j = bs at hlt2 hbn
        have HLT := hid hlt2
        have HBN := hid hbn
        have HC := hid hc
        have HLH := hid (lastAt_has s bs)
        clear hlt2 hbn hc ht hrk q0 q1 q2 q3 q4 q5 q6 q7 hbg hll hbt hxl hbo
        by_cases hh : hasStr bs s = true
        case pos =>
          have gr : decide (lastAt s bs < 0) = false := by have := HLH.out; rw [hh] at this; simp at this ⊢; omega
          have HV := hid (show offOf bs s (Tm.levs s (Tm.mk k3 u3 n3 (Ty.mk tk3 tn3 tks3) ns3 ks3) l) = [] by rw [offOf, hh]; rfl)
          clear hh
          go_wp2_with fail
          refine HBN.out.mono ?_
          rintro e w2 ⟨vb, rfl, hs, hb2⟩
          have HLQ := hid (last_L _ _ s w2 hs)
          obtain ⟨a2, c2, rfl, -⟩ := hs
          have HG2 := hid (HGN.out.below hb2)
          generalize lastAt s bs = r at gr HLQ
          clear hb2 HBN z7
          go_wp2_with fail
          refine HLQ.out.mono ?_
          rintro e w3 ⟨rfl, rfl⟩
          go_wp2_with fail
          go_roundw
          case rel => exact ⟨j + 1, _, by omega, by go_num, rfl, by rw [HLT.out, HV.out, List.append_nil]; exact HG2.out⟩
          case measure => simp [intOf]; omega
        case neg =>
          have hhf := (Bool.not_eq_true _).mp hh
          have gr : decide (lastAt s bs < 0) = true := by have := HLH.out; rw [hhf] at this; simp at this ⊢; omega
          have HV := hid (show offOf bs s (Tm.levs s (Tm.mk k3 u3 n3 (Ty.mk tk3 tn3 tks3) ns3 ks3) l) = Tm.levs s (Tm.mk k3 u3 n3 (Ty.mk tk3 tn3 tks3) ns3 ks3) l by rw [offOf, hhf]; rfl)
          clear hh hhf
          go_wp2_with fail
          refine HBN.out.mono ?_
          rintro e w2 ⟨vb, rfl, hs, hb2⟩
          have HLQ := hid (last_L _ _ s w2 hs)
          obtain ⟨a2, c2, rfl, -⟩ := hs
          have HG2 := hid (HGN.out.below hb2)
          have z7b := (HG2.out.2.1.cell (p := ⟨b1, o1 + 7, none⟩) XL.out).trans X7.out
          generalize lastAt s bs = r at gr HLQ
          clear hb2 HBN z7
          go_wp2_with fail
          refine HLQ.out.mono ?_
          rintro e w3 ⟨rfl, rfl⟩
          go_wp2_with fail
          refine (HC.out _ HG2.out.2.1 HG2.out.1).mono ?_
          rintro e w4 ⟨v4, rfl, hg4⟩
          have HG4 := hid hg4
          clear hg4 z7b
          go_wp2_with fail
          go_roundw
          case rel => exact ⟨j + 1, _, by omega, by go_num, rfl, by rw [HLT.out, HV.out]; exact HG2.out.step HG4.out⟩
          case measure => simp [intOf]; omega
theorem l05At_all (s : ByteArray) : ∀ N, LvW s N
  | 0 => fun _ _ _ _ _ _ _ _ _ _ _ _ _ _ _ _ _ _ _ _ _  h => absurd h (by omega)
  | N + 1 => l05At_step s N (l05At_all s N)
theorem ownsRow.rd_ints {B : Nat} {w' : World} {v : Value} {xs : List Int} (h : w'.ownsRow B 2 1 v xs.length (xs.map (Value.int .i64))) (hL : ∀ x ∈ xs, -9223372036854775808 ≤ x ∧ x ≤ 9223372036854775807) : OwnL w' B (In.ds xs) v := by
  obtain ⟨F, h1, h2⟩ := Rd.of_own h (by rw [In.ds_length]) (In.rdall xs hL) (Owned.nil w' B) (fun _ _ hx => by simp at hx)
  exact ⟨F, h1, h2⟩
/-- A list of integers that the call has made. -/
theorem GivesIns.nil {w w' : World} (hb : Below w.heap.size w w') : GivesIns [] w (.returned (.slice none 0 0)) w' := ⟨none, 0, rfl, ⟨[], Rd.nil_mk (by omega), Owned.nil _ _⟩, hb⟩
theorem GivesIns.none {w w' : World} (a : Option Addr) (hb : Below w.heap.size w w') : GivesIns [] w (.returned (.slice a 0 0)) w' := ⟨a, 0, rfl, ⟨[], Rd.nil_mk (by omega), Owned.nil _ _⟩, hb⟩
theorem GivesIns.of_grow {w w0 w1 w' : World} {v : Value} {xs : List Int} (hb : Below w.heap.size w w0) (hg : GrowNow 2 w0 w1 xs v w') (hL : ∀ x ∈ xs, -9223372036854775808 ≤ x ∧ x ≤ 9223372036854775807) : GivesIns xs w (.returned v) w' := by
  obtain ⟨a, c, rfl⟩ := hg.slice
  exact ⟨a, c, rfl, OwnS.mono (ownsRow.rd_ints hg.1 hL) hb.size, hb.trans (hg.2.1.mono hb.size)⟩
theorem spec_LevelsOf (k1 : Int) (u1 : Int) (n1 : ByteArray) (tk1 : Int) (tn1 : ByteArray) (tks1 : List Ty) (ns1 : List ByteArray) (ks1 : List Tm) (atks1 : Option Addr) (ctks1 : Nat) (ans1 : Option Addr) (cns1 : Nat) (aks1 : Option Addr) (cks1 : Nat) (s : ByteArray) (w : World) (hM : Tm.bulk (Tm.mk k1 u1 n1 (Ty.mk tk1 tn1 tks1) ns1 ks1) ≤ 1048576) (hr : RdS w (Tm.d (Tm.mk k1 u1 n1 (Ty.mk tk1 tn1 tks1) ns1 ks1)) [.int .i64 k1, .int .i64 u1, .string n1, .int .i64 tk1, .string tn1, .slice atks1 tks1.length ctks1, .slice ans1 ns1.length cns1, .slice aks1 ks1.length cks1]) :
    Calls Try.prog 32 #[.agg #[.int .i64 k1, .int .i64 u1, .string n1, .int .i64 tk1, .string tn1, .slice atks1 tks1.length ctks1, .slice ans1 ns1.length cns1, .slice aks1 ks1.length cks1], .string s] w (GivesIns (levN (Tm.mk k1 u1 n1 (Ty.mk tk1 tn1 tks1) ns1 ks1) s) w) := by
  have hB := (Below.refl w.heap.size w).alloc (Nat.le_refl _) (.cells #[.int .i64 k1, .int .i64 u1, .string n1, .int .i64 tk1, .string tn1, .slice atks1 tks1.length ctks1, .slice ans1 ns1.length cns1, .slice aks1 ks1.length cks1] 36)
  have HX0 := hid ((Boxes.nil w).alloc #[.int .i64 k1, .int .i64 u1, .string n1, .int .i64 tk1, .string tn1, .slice atks1 tks1.length ctks1, .slice ans1 ns1.length cns1, .slice aks1 ks1.length cks1] 36 (0, 0))
  have hrb := hr.below hB
  have hc := spec_l03Ok k1 u1 n1 tk1 tn1 tks1 ns1 ks1 atks1 ctks1 ans1 cns1 aks1 cks1 w.heap.size 0 (w.alloc (.cells #[.int .i64 k1, .int .i64 u1, .string n1, .int .i64 tk1, .string tn1, .slice atks1 tks1.length ctks1, .slice ans1 ns1.length cns1, .slice aks1 ks1.length cks1] 36)) hM (HX0.out.at 0 0 rfl rfl) (HX0.out.at 0 1 rfl rfl) (HX0.out.at 0 2 rfl rfl) (HX0.out.at 0 3 rfl rfl) (HX0.out.at 0 4 rfl rfl) (HX0.out.at 0 5 rfl rfl) (HX0.out.at 0 6 rfl rfl) (HX0.out.at 0 7 rfl rfl) hrb
  have hIN := levN_in (Tm.mk k1 u1 n1 (Ty.mk tk1 tn1 tks1) ns1 ks1) s hM
  have HB := hid hB
  by_cases hok : Tm.ok (Tm.mk k1 u1 n1 (Ty.mk tk1 tn1 tks1) ns1 ks1) = true
  case neg =>
    have HF := hid (levN_no s ((Bool.not_eq_true _).mp hok))
    rw [(Bool.not_eq_true _).mp hok] at hc
    have HC := hid hc
    clear hc hok hM hr hrb hB HX0 hIN
    go_enter Try.func32, Try.ntmps32
    go_wp2_with fail
    refine HC.out.mono ?_
    rintro e w1 ⟨rfl, hb⟩
    have HB1 := hid (HB.out.trans (hb.mono HB.out.size))
    clear hb
    go_wp2_with fail
    go_ret
    rw [HF.out]
    exact GivesIns.none _ (HB1.out.alloc HB1.out.size _)
  case pos =>
    have HF := hid (levN_yes s hok)
    rw [hok] at hc
    have HC := hid hc
    have HR := hid hrb
    have HIN := hid hIN
    have HMM := hid hM
    clear hc hok hM hr hrb hB hIN
    go_enter Try.func32, Try.ntmps32
    go_wp2_with fail
    refine HC.out.mono ?_
    rintro e w1 ⟨rfl, hb⟩
    have HB1 := hid (HB.out.trans (hb.mono HB.out.size))
    have HX1 := hid (HX0.out.below hb)
    have hr1 := HR.out.below hb
    have hs := l05At_all s (Tm.bulk (Tm.mk k1 u1 n1 (Ty.mk tk1 tn1 tks1) ns1 ks1) + 1) w1 k1 u1 n1 tk1 tn1 tks1 ns1 ks1 atks1 ctks1 ans1 cns1 aks1 cks1 w.heap.size 0 0 (.slice (some ⟨w1.heap.size, 0, none⟩) 0 0) [] (w1.alloc (.cells #[] 2)) (by omega) HMM.out (by omega) (by have := HMM.out; omega) (by have := HMM.out; simp; omega) (HX1.out.at 0 0 rfl rfl) (HX1.out.at 0 2 rfl rfl) (HX1.out.at 0 6 rfl rfl) (HX1.out.at 0 7 rfl rfl) hr1 ((Below.refl _ _).alloc (Nat.le_refl _) _) (World.ownsRow_made w1 #[] 0 (Nat.le_refl _) (by unfold maxLen; omega) rfl)
    have HS := hid hs
    clear hb hs hr1
    go_wp2_with fail
    refine HS.out.mono ?_
    rintro e w2 ⟨v2, rfl, hg⟩
    have HP := hid (GivesIns.of_grow HB1.out hg (by rw [List.nil_append, ← HF.out]; exact HIN.out))
    clear hg
    go_wp2_with fail
    go_ret
    rw [HF.out]
    exact HP.out
end Go.Proofs.Ytdcifcfkjhpokaa
