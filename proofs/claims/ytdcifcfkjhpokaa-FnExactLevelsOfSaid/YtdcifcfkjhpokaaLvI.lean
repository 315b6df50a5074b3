/- Walks: the levels of a name's free occurrences, in the program. -/
import Derived.Test.YtdcifcfkjhpokaaLvS
import Derived.Test.YtdcifcfkjhpokaaTmBoxI
import Derived.Deep.RegionHeld3
namespace Go.Proofs.Ytdcifcfkjhpokaa
open Go.ChangeShapes Go.WideShapes Go.ChangeAt Go.RowKit Go.BigFrame
open Go.Sort (grow)
set_option linter.unusedVariables false

theorem Tm.good_var {u : Int} {n : ByteArray} {t : Ty} {ns : List ByteArray} {ks : List Tm} (h : Tm.good (.mk 1 u n t ns ks) = true) : ks = [] := by
  rw [Tm.good] at h
  simp only [okTm, Bool.and_eq_true] at h
  have h1 := h.1.1
  simp [tmN, inR] at h1
  first | exact h1 | exact List.eq_nil_of_length_eq_zero (by omega) | simpa using h1
theorem Tm.good_kids {k u : Int} {n : ByteArray} {t : Ty} {ns : List ByteArray} {ks : List Tm} (h : Tm.good (.mk k u n t ns ks) = true) : Tm.goods ks = true := by
  rw [Tm.good, Bool.and_eq_true, Bool.and_eq_true] at h; exact h.2.2
def LviW (s : ByteArray) (N : Nat) : Prop := ∀ (w0 : World) (k1 : Int) (u1 : Int) (n1 : ByteArray) (tk1 : Int) (tn1 : ByteArray) (tks1 : List Ty) (ns1 : List ByteArray) (ks1 : List Tm) (atks1 : Option Addr) (ctks1 : Nat) (ans1 : Option Addr) (cns1 : Nat) (aks1 : Option Addr) (cks1 : Nat) (l : Int) (v : Value) (xs : List Int) (w : World), Tm.bulk (Tm.mk k1 u1 n1 (Ty.mk tk1 tn1 tks1) ns1 ks1) < N → Tm.bulk (Tm.mk k1 u1 n1 (Ty.mk tk1 tn1 tks1) ns1 ks1) ≤ 1048576 → 0 ≤ l → l + Tm.bulk (Tm.mk k1 u1 n1 (Ty.mk tk1 tn1 tks1) ns1 ks1) ≤ 4194304 → xs.length + 1 + Tm.bulk (Tm.mk k1 u1 n1 (Ty.mk tk1 tn1 tks1) ns1 ks1) ≤ 4194304 → Tm.good (Tm.mk k1 u1 n1 (Ty.mk tk1 tn1 tks1) ns1 ks1) = true → RdS w0 (Tm.d (Tm.mk k1 u1 n1 (Ty.mk tk1 tn1 tks1) ns1 ks1)) [.int .i64 k1, .int .i64 u1, .string n1, .int .i64 tk1, .string tn1, .slice atks1 tks1.length ctks1, .slice ans1 ns1.length cns1, .slice aks1 ks1.length cks1] → Below w0.heap.size w0 w → w.ownsRow w0.heap.size 2 1 v xs.length (xs.map (Value.int .i64)) →
  Calls Try.prog 69 #[.agg #[.int .i64 k1, .int .i64 u1, .string n1, .int .i64 tk1, .string tn1, .slice atks1 tks1.length ctks1, .slice ans1 ns1.length cns1, .slice aks1 ks1.length cks1], .string s, .int .i64 l, v] w (GrowPost 2 w0 w (xs ++ Tm.levs s (Tm.mk k1 u1 n1 (Ty.mk tk1 tn1 tks1) ns1 ks1) l))
set_option maxRecDepth 100000 in
set_option maxHeartbeats 4000000 in
theorem addLevels_step (s : ByteArray) (N : Nat) (ih : LviW s N) : LviW s (N + 1) := by
  obtain ⟨i0, hi, hz0, hz1, hz2⟩ := info_parts infoL64
  intro w0 k1 u1 n1 tk1 tn1 tks1 ns1 ks1 atks1 ctks1 ans1 cns1 aks1 cks1 l v xs w hN hM hl0 hlM hxM hg hr hb0 hown
  have hsz := hb0.size
  have HB0 := hid hb0
  have HO := hid hown
  clear hb0 hown
  by_cases h1 : k1 = 1
  case pos =>
    subst h1
    have hn := Tm.good_var hg
    have HE := hid (Tm.levs_var s u1 n1 (Ty.mk tk1 tn1 tks1) ns1 ks1 l)
    by_cases hq : n1 = s
    case pos =>
      have hb := bytes_eq hq
      have HF := hid (HE.out.trans (if_pos hq))
      have HI := hid hi
      clear hr ih hN hlM HE hi hq hg hn
      go_enter Try.func69, Try.ntmps69
      go_wp2_with (at_builtin; refine wpList_append_own _ rfl _ _ 48 rfl w0.heap.size 2 i0 (.int .i64 0) 1 8 Try.underlying48 HI.out hz0 hz1 hz2 rfl (by decide) _ _ _ rfl ((HO.out.alloc _).alloc _) ⟨w.heap.size + 1, 0, none⟩ 1 1 [.int .i64 l] rfl rfl ?c1 ?c2 ?c3 ?c4 ?c5 ?_)
      case c1 =>
        have h := one_new (w.alloc (.cells #[.int .i64 1, .int .i64 u1, .string n1, .int .i64 tk1, .string tn1, .slice atks1 tks1.length ctks1, .slice ans1 ns1.length cns1, .slice aks1 ks1.length cks1] 36)) (.int .i64 l) 2
        rw [World.size_alloc] at h
        exact h
      case c2 => intro x hx; simp at hx; subst hx; rfl
      case c3 => unfold maxLen; omega
      case c4 => omega
      case c5 => simp; omega
      intro v' w3 hown3 hgrow3 hnil3
      have HR := hid (grow_one (HB0.out.alloc hsz (.cells #[.int .i64 1, .int .i64 u1, .string n1, .int .i64 tk1, .string tn1, .slice atks1 tks1.length ctks1, .slice ans1 ns1.length cns1, .slice aks1 ks1.length cks1] 36)) (HO.out.alloc _) hown3 hgrow3)
      clear hown3 hgrow3 hnil3
      go_wp2_with fail
      go_ret
      rw [HF.out]
      exact HR.out.from (KeepT.of_below ((Below.refl _ _).alloc (Nat.le_refl _) _))
    case neg =>
      have hb := bytes_ne hq
      have HF := hid (HE.out.trans (if_neg hq))
      have HZ := hid (show ks1.length = 0 by rw [hn]; rfl)
      clear hq hr ih hN HE hi hg hn
      go_enter Try.func69, Try.ntmps69
      go_wp2_with fail
      go_loopw [3, 9, 10, 27] (fun v' _ _ n wr => ∃ (j : Nat), j = 0 ∧ v' = v ∧ n = .int .i64 j ∧ wr = w.alloc (.cells #[.int .i64 1, .int .i64 u1, .string n1, .int .i64 tk1, .string tn1, .slice atks1 tks1.length ctks1, .slice ans1 ns1.length cns1, .slice aks1 ks1.length cks1] 36)) (fun _ _ _ n _ => 0)
      case atStart => exact ⟨0, rfl, rfl, rfl, rfl⟩
      case round =>
        obtain ⟨j, hj, rfl, rfl, rfl⟩ := hrel
        have hlt : ¬ j < ks1.length := by have := HZ.out; omega
        go_wp2_with fail
        go_ret
        rw [HF.out, List.append_nil]
        exact ⟨_, rfl, HO.out.alloc _, HB0.out.alloc hsz _, KeepT.of_below ((Below.refl _ _).alloc (Nat.le_refl _) _)⟩
  case neg =>
  have g1 : (k1 == 1) = false := by simp [h1]
  have HF := hid (Tm.levs_mk s h1 u1 n1 (Ty.mk tk1 tn1 tks1) ns1 ks1 l)
  have HGK := hid (Tm.good_kids hg)
  have hbk : Tm.bulks ks1 ≤ Tm.bulk (Tm.mk k1 u1 n1 (Ty.mk tk1 tn1 tks1) ns1 ks1) := by simp only [Tm.bulk]; omega
  have hfk := hr.fTm.2.2.2.2.2
  have hfn := hr.fTm.2.2.2.2.1
  obtain ⟨_, _, e, h2, h3, h4⟩ := hfk.eTm
  simp only [Value.slice.injEq, true_and] at e
  obtain ⟨rfl, rfl⟩ := e
  have hbc := Tm.bulks_length ks1
  have hlk : ks1.length ≤ 1048576 := by omega
  have IH := hid ih
  have H4 := hid h4
  have HK := hid hbk
  have HM := hid hM
  have HN := hid hN
  have HFN := hid hfn
  have HLM := hid hlM
  have HXM := hid hxM
  have hlm : l ≤ 4194304 := by omega
  clear ih hr h4 hbk hN hM hlM hxM h1 hbc hi hz0 hz1 hz2 hfk hfn hg
  by_cases h6 : k1 = 6
  case pos =>
    have g6 : (k1 == 6) = true := by simp [h6]
    have HQ := hid (show l + isBox k1 = l + 1 by simp [isBox, h6])
    rw [HQ.out] at HF
    clear h6
    go_enter Try.func69, Try.ntmps69
    go_wp2_with fail
    go_loopw [3, 9, 10, 27] (fun v _ _ n wr => ∃ (j : Nat) (v0 : Value), j ≤ ks1.length ∧ n = .int .i64 j ∧ v0 = v ∧ GrowNow 2 w0 (w.alloc (.cells #[.int .i64 k1, .int .i64 u1, .string n1, .int .i64 tk1, .string tn1, .slice atks1 tks1.length ctks1, .slice ans1 ns1.length cns1, .slice aks1 ks1.length cks1] 36)) (xs ++ Tm.levss s k1 n1 ns1 0 (ks1.take j) (l + 1)) v0 wr) (fun _ _ _ n _ => ks1.length - (intOf n).toNat)
    case atStart => exact ⟨0, _, by omega, rfl, rfl, by simpa [Tm.levss] using HO.out.alloc _, HB0.out.alloc hsz _, KeepT.refl _ _⟩
    case round =>
      obtain ⟨j, v0, hj, rfl, rfl, hgn⟩ := hrel
      have hb := hgn.2.1
      have HGN := hid hgn
      have hcb := hgn.2.2 w.heap.size #[.int .i64 k1, .int .i64 u1, .string n1, .int .i64 tk1, .string tn1, .slice atks1 tks1.length ctks1, .slice ans1 ns1.length cns1, .slice aks1 ks1.length cks1] 36 (0, 0) (heap_alloc_new w _) (by decide)
      have hcl := (Array.getElem?_eq_some_iff.1 hcb).1
      have HBW := hid hb
      have HCB := hid hcb
      clear hgn hb hcb
      by_cases hlt : j < ks1.length
      case neg =>
        have hlv : Tm.levss s k1 n1 ns1 0 (ks1.take j) (l + 1) = Tm.levss s k1 n1 ns1 0 ks1 (l + 1) := by rw [List.take_of_length_le (by omega)]
        have HP := hid (show GrowPost 2 w0 w (xs ++ Tm.levs s (Tm.mk k1 u1 n1 (Ty.mk tk1 tn1 tks1) ns1 ks1) l) (.returned v0) wr from GrowPost.from ⟨_, rfl, by rw [HF.out, ← hlv]; exact HGN.out⟩ (KeepT.of_below ((Below.refl _ _).alloc (Nat.le_refl _) _)))
        clear hlv
        go_wp2_with fail
        go_ret
        exact HP.out
      case pos =>
        obtain ⟨b, o, rfl, hbl, hall⟩ := H4.out (by omega)
        obtain ⟨t, ht⟩ : ∃ t, ks1[j]? = some t := ⟨_, List.getElem?_eq_getElem hlt⟩
        obtain ⟨k3, u3, n3, ⟨tk3, tn3, tks3⟩, ns3, ks3⟩ := t
        obtain ⟨atks3, ctks3, ans3, cns3, aks3, cks3, q0, q1, q2, q3, q4, q5, q6, q7, hrk⟩ := hall j k3 u3 n3 tk3 tn3 tks3 ns3 ks3 ht
        clear hall H4
        have hbg := Tm.bulk_get ks1 j _ ht
        have hlt2 := Tm.levss_take s k1 n1 ns1 ks1 0 j _ (l + 1) ht
        rw [Nat.zero_add] at hlt2
        have hll := Tm.levss_len s k1 n1 ns1 0 (ks1.take j) (l + 1)
        have hbt : Tm.bulks (ks1.take j) + 1 + Tm.bulk (Tm.mk k3 u3 n3 (Ty.mk tk3 tn3 tks3) ns3 ks3) ≤ Tm.bulks ks1 := by have h1 := Tm.bulks_take ks1 j _ ht; have h2 := Tm.bulks_le ks1 (j + 1); omega
        have hxl : (xs ++ Tm.levss s k1 n1 ns1 0 (ks1.take j) (l + 1)).length + 1 + Tm.bulk (Tm.mk k3 u3 n3 (Ty.mk tk3 tn3 tks3) ns3 ks3) ≤ 4194304 := by have := HK.out; have := HXM.out; rw [List.length_append]; omega
        have hgk := Tm.goods_get ks1 j _ HGK.out ht
        have hbk1 : Below wr.heap.size wr (wr.alloc (.cells #[.int .i64 k3, .int .i64 u3, .string n3, .int .i64 tk3, .string tn3, .slice atks3 tks3.length ctks3, .slice ans3 ns3.length cns3, .slice aks3 ks3.length cks3] 36)) := (Below.refl _ _).alloc (Nat.le_refl _) _
        have HBA := hid (HBW.out.trans (hbk1.mono HBW.out.size))
        have HGA := hid (HGN.out.below hbk1)
        have HKB := hid (show (wr.alloc (.cells #[.int .i64 k3, .int .i64 u3, .string n3, .int .i64 tk3, .string tn3, .slice atks3 tks3.length ctks3, .slice ans3 ns3.length cns3, .slice aks3 ks3.length cks3] 36)).heap[w.heap.size]? = some (.cells #[.int .i64 k1, .int .i64 u1, .string n1, .int .i64 tk1, .string tn1, .slice atks1 tks1.length ctks1, .slice ans1 ns1.length cns1, .slice (some ⟨b, o, none⟩) ks1.length cks1] 36) from (Below.heap_alloc wr (.cells #[.int .i64 k3, .int .i64 u3, .string n3, .int .i64 tk3, .string tn3, .slice atks3 tks3.length ctks3, .slice ans3 ns3.length cns3, .slice aks3 ks3.length cks3] 36) _ hcl).trans HCB.out)
        have HKK := hid (heap_alloc_new wr (.cells #[.int .i64 k3, .int .i64 u3, .string n3, .int .i64 tk3, .string tn3, .slice atks3 tks3.length ctks3, .slice ans3 ns3.length cns3, .slice aks3 ks3.length cks3] 36))
        have hbn := impl_bound k1 u1 n1 tk1 tn1 tks1 ns1 ks1 atks1 ctks1 ans1 cns1 (some ⟨b, o, none⟩) cks1 j (wr.alloc (.cells #[.int .i64 k3, .int .i64 u3, .string n3, .int .i64 tk3, .string tn3, .slice atks3 tks3.length ctks3, .slice ans3 ns3.length cns3, .slice aks3 ks3.length cks3] 36)) (HFN.out.below HBA.out)
        have hc := fun W hW ho => IH.out w0 k3 u3 n3 tk3 tn3 tks3 ns3 ks3 atks3 ctks3 ans3 cns3 aks3 cks3 (l + 1) v0 (xs ++ Tm.levss s k1 n1 ns1 0 (ks1.take j) (l + 1)) W (by have := HK.out; have := HN.out; omega) (by have := HK.out; have := HM.out; omega) (by omega) (by have := HK.out; have := HLM.out; omega) hxl hgk hrk hW ho
        rw [List.append_assoc] at hc
        generalize hbo : boundOf k1 n1 ns1 j = bs at hlt2 hbn
        have htr := fun W => impl_truth true W
        simp only [if_true] at htr
        have HTR := hid htr
        have HLT := hid hlt2
        have HBN := hid hbn
        have HC := hid hc
        have d0 := (HBW.out.cell (p := ⟨b, o + j * 8, none⟩) hbl).trans q0
        have d1 := (HBW.out.cell (p := ⟨b, o + j * 8 + 1, none⟩) hbl).trans q1
        have d2 := (HBW.out.cell (p := ⟨b, o + j * 8 + 2, none⟩) hbl).trans q2
        have d3 := (HBW.out.cell (p := ⟨b, o + j * 8 + 3, none⟩) hbl).trans q3
        have d4 := (HBW.out.cell (p := ⟨b, o + j * 8 + 4, none⟩) hbl).trans q4
        have d5 := (HBW.out.cell (p := ⟨b, o + j * 8 + 5, none⟩) hbl).trans q5
        have d6 := (HBW.out.cell (p := ⟨b, o + j * 8 + 6, none⟩) hbl).trans q6
        have d7 := (HBW.out.cell (p := ⟨b, o + j * 8 + 7, none⟩) hbl).trans q7
        have e0 := heap_cell HKB.out (j := 0) rfl
        have e1 := heap_cell HKB.out (j := 1) rfl
        have e2 := heap_cell HKB.out (j := 2) rfl
        have e3 := heap_cell HKB.out (j := 3) rfl
        have e4 := heap_cell HKB.out (j := 4) rfl
        have e5 := heap_cell HKB.out (j := 5) rfl
        have e6 := heap_cell HKB.out (j := 6) rfl
        have e7 := heap_cell HKB.out (j := 7) rfl
        clear hlt2 hbn hc htr ht hrk q0 q1 q2 q3 q4 q5 q6 q7 hbg hll hbt hxl hbo hbk1 hgk hcl
        by_cases hh : hasStr bs s = true
        case pos =>
          have HV := hid (show offOf bs s (Tm.levs s (Tm.mk k3 u3 n3 (Ty.mk tk3 tn3 tks3) ns3 ks3) (l + 1)) = [] by rw [offOf, hh]; rfl)
          have HH := hid hh
          clear hh
          go_wp2_with fail
          refine HBN.out.mono ?_
          rintro e w2 ⟨vb, rfl, hs, hb2⟩
          have HLQ := hid (has_L _ _ s w2 hs)
          obtain ⟨a2, c2, rfl, -⟩ := hs
          have HG2 := hid (HGA.out.below hb2)
          clear hb2 HBN e0 d0 e1 d1 e2 d2 e3 d3 e4 d4 e5 d5 e6 d6 e7 d7
          go_wp2_with fail
          refine HLQ.out.mono ?_
          rw [HH.out]
          rintro e w3 ⟨rfl, rfl⟩
          go_wp2_with fail
          go_roundw
          case rel => exact ⟨j + 1, _, by omega, by go_num, rfl, by rw [HLT.out, HV.out, List.append_nil]; exact HG2.out⟩
          case measure => simp [intOf]; omega
        case neg =>
          have hhf := (Bool.not_eq_true _).mp hh
          have HV := hid (show offOf bs s (Tm.levs s (Tm.mk k3 u3 n3 (Ty.mk tk3 tn3 tks3) ns3 ks3) (l + 1)) = Tm.levs s (Tm.mk k3 u3 n3 (Ty.mk tk3 tn3 tks3) ns3 ks3) (l + 1) by rw [offOf, hhf]; rfl)
          have HH := hid hhf
          clear hh hhf
          go_wp2_with fail
          refine HBN.out.mono ?_
          rintro e w2 ⟨vb, rfl, hs, hb2⟩
          have HLQ := hid (has_L _ _ s w2 hs)
          obtain ⟨a2, c2, rfl, -⟩ := hs
          have HG2 := hid (HGA.out.below hb2)
          have HKB2 := hid ((hb2.block _ (Array.getElem?_eq_some_iff.1 HKB.out).1).trans HKB.out)
          have HKK2 := hid ((hb2.block _ (Array.getElem?_eq_some_iff.1 HKK.out).1).trans HKK.out)
          clear hb2 HBN e0 d0 e1 d1 e2 d2 e3 d3 e4 d4 e5 d5 e6 d6 e7 d7
          go_wp2_with fail
          refine HLQ.out.mono ?_
          rw [HH.out]
          rintro e w3 ⟨rfl, rfl⟩
          have hS : ∀ V : World, Below w0.heap.size w0 V → V.heap[w.heap.size]? = some (.cells #[.int .i64 k1, .int .i64 u1, .string n1, .int .i64 tk1, .string tn1, .slice atks1 tks1.length ctks1, .slice ans1 ns1.length cns1, .slice (some ⟨b, o, none⟩) ks1.length cks1] 36) → V.heap[wr.heap.size]? = some (.cells #[.int .i64 k3, .int .i64 u3, .string n3, .int .i64 tk3, .string tn3, .slice atks3 tks3.length ctks3, .slice ans3 ns3.length cns3, .slice aks3 ks3.length cks3] 36) → (Below w0.heap.size w0 V ∧ V.heap[w.heap.size]? = some (.cells #[.int .i64 k1, .int .i64 u1, .string n1, .int .i64 tk1, .string tn1, .slice atks1 tks1.length ctks1, .slice ans1 ns1.length cns1, .slice (some ⟨b, o, none⟩) ks1.length cks1] 36) ∧ V.heap[wr.heap.size]? = some (.cells #[.int .i64 k3, .int .i64 u3, .string n3, .int .i64 tk3, .string tn3, .slice atks3 tks3.length ctks3, .slice ans3 ns3.length cns3, .slice aks3 ks3.length cks3] 36) ∧ V.cell? ⟨w.heap.size, 0, none⟩ = some (.int .i64 k1) ∧ V.cell? ⟨w.heap.size, 1, none⟩ = some (.int .i64 u1) ∧ V.cell? ⟨w.heap.size, 2, none⟩ = some (.string n1) ∧ V.cell? ⟨w.heap.size, 3, none⟩ = some (.int .i64 tk1) ∧ V.cell? ⟨w.heap.size, 4, none⟩ = some (.string tn1) ∧ V.cell? ⟨w.heap.size, 5, none⟩ = some (.slice atks1 tks1.length ctks1) ∧ V.cell? ⟨w.heap.size, 6, none⟩ = some (.slice ans1 ns1.length cns1) ∧ V.cell? ⟨w.heap.size, 7, none⟩ = some (.slice (some ⟨b, o, none⟩) ks1.length cks1) ∧ V.cell? ⟨wr.heap.size, 0, none⟩ = some (.int .i64 k3) ∧ V.cell? ⟨wr.heap.size, 1, none⟩ = some (.int .i64 u3) ∧ V.cell? ⟨wr.heap.size, 2, none⟩ = some (.string n3) ∧ V.cell? ⟨wr.heap.size, 3, none⟩ = some (.int .i64 tk3) ∧ V.cell? ⟨wr.heap.size, 4, none⟩ = some (.string tn3) ∧ V.cell? ⟨wr.heap.size, 5, none⟩ = some (.slice atks3 tks3.length ctks3) ∧ V.cell? ⟨wr.heap.size, 6, none⟩ = some (.slice ans3 ns3.length cns3) ∧ V.cell? ⟨wr.heap.size, 7, none⟩ = some (.slice aks3 ks3.length cks3)) :=
            fun V h1 h2 h3 => ⟨h1, h2, h3, heap_cell h2 rfl, heap_cell h2 rfl, heap_cell h2 rfl, heap_cell h2 rfl, heap_cell h2 rfl, heap_cell h2 rfl, heap_cell h2 rfl, heap_cell h2 rfl, heap_cell h3 rfl, heap_cell h3 rfl, heap_cell h3 rfl, heap_cell h3 rfl, heap_cell h3 rfl, heap_cell h3 rfl, heap_cell h3 rfl, heap_cell h3 rfl⟩
          have HS := hid hS
          have hbd : Below w0.heap.size w0 w2.drew := HG2.out.2.1.drew
          have hod := ownsRow.below HG2.out.1 ((Below.refl w2.heap.size w2).drew)
          have HSD := hid (hS w2.drew hbd HKB2.out HKK2.out)
          have HOD := hid hod
          obtain ⟨-, -, -, s0, s1, s2, s3, s4, s5, s6, s7, s8, s9, s10, s11, s12, s13, s14, s15⟩ := hS w2.drew hbd HKB2.out HKK2.out
          clear hS hod
          have hs2 : IntKind.i64.wrap (l + 1) = (l + 1) := IntWalk.i64_in _ (by omega)
          go_wp2_with fail
          go_region_held3 (fun V => (Below w0.heap.size w0 V ∧ V.heap[w.heap.size]? = some (.cells #[.int .i64 k1, .int .i64 u1, .string n1, .int .i64 tk1, .string tn1, .slice atks1 tks1.length ctks1, .slice ans1 ns1.length cns1, .slice (some ⟨b, o, none⟩) ks1.length cks1] 36) ∧ V.heap[wr.heap.size]? = some (.cells #[.int .i64 k3, .int .i64 u3, .string n3, .int .i64 tk3, .string tn3, .slice atks3 tks3.length ctks3, .slice ans3 ns3.length cns3, .slice aks3 ks3.length cks3] 36) ∧ V.cell? ⟨w.heap.size, 0, none⟩ = some (.int .i64 k1) ∧ V.cell? ⟨w.heap.size, 1, none⟩ = some (.int .i64 u1) ∧ V.cell? ⟨w.heap.size, 2, none⟩ = some (.string n1) ∧ V.cell? ⟨w.heap.size, 3, none⟩ = some (.int .i64 tk1) ∧ V.cell? ⟨w.heap.size, 4, none⟩ = some (.string tn1) ∧ V.cell? ⟨w.heap.size, 5, none⟩ = some (.slice atks1 tks1.length ctks1) ∧ V.cell? ⟨w.heap.size, 6, none⟩ = some (.slice ans1 ns1.length cns1) ∧ V.cell? ⟨w.heap.size, 7, none⟩ = some (.slice (some ⟨b, o, none⟩) ks1.length cks1) ∧ V.cell? ⟨wr.heap.size, 0, none⟩ = some (.int .i64 k3) ∧ V.cell? ⟨wr.heap.size, 1, none⟩ = some (.int .i64 u3) ∧ V.cell? ⟨wr.heap.size, 2, none⟩ = some (.string n3) ∧ V.cell? ⟨wr.heap.size, 3, none⟩ = some (.int .i64 tk3) ∧ V.cell? ⟨wr.heap.size, 4, none⟩ = some (.string tn3) ∧ V.cell? ⟨wr.heap.size, 5, none⟩ = some (.slice atks3 tks3.length ctks3) ∧ V.cell? ⟨wr.heap.size, 6, none⟩ = some (.slice ans3 ns3.length cns3) ∧ V.cell? ⟨wr.heap.size, 7, none⟩ = some (.slice aks3 ks3.length cks3)))
            (first | assumption | exact HSD.out | exact HS.out _ hbS hcS hkS | go_keep)
            (first
              | (go_at_call 99; (with_reducible refine (HTR.out _).mono ?_); rintro e V2 ⟨rfl, rfl⟩)
              | (go_at_call 69; (with_reducible refine (HC.out _ ?_ ?_).mono ?_); (exact (‹Below w0.heap.size w0 _ ∧ _›).1); (exact HOD.out); rintro e Vz ⟨vz, rfl, hgn3⟩; have HG3 := hid hgn3; have hu := ‹Below w0.heap.size w0 _ ∧ _ ∧ _ ∧ _›; have hbS := hgn3.2.1; have hcS := hgn3.2.2 _ _ _ _ hu.2.1 (by decide); have hkS := hgn3.2.2 _ _ _ _ hu.2.2.1 (by decide); clear hgn3 hu))
          clear hbd hs2 hbS hcS hkS
          go_wp2_with fail
          go_roundw
          case rel => exact ⟨j + 1, _, by omega, by go_num, rfl, by rw [HLT.out, HV.out]; exact (HG2.out.below ((Below.refl w2.heap.size w2).drew)).step HG3.out⟩
          case measure => simp [intOf]; omega
  case neg =>
    have g6 : (k1 == 6) = false := by simp [h6]
    have HQ := hid (show l + isBox k1 = l by simp [isBox, h6])
    rw [HQ.out] at HF
    clear h6
    go_enter Try.func69, Try.ntmps69
    go_wp2_with fail
    go_loopw [3, 9, 10, 27] (fun v _ _ n wr => ∃ (j : Nat) (v0 : Value), j ≤ ks1.length ∧ n = .int .i64 j ∧ v0 = v ∧ GrowNow 2 w0 (w.alloc (.cells #[.int .i64 k1, .int .i64 u1, .string n1, .int .i64 tk1, .string tn1, .slice atks1 tks1.length ctks1, .slice ans1 ns1.length cns1, .slice aks1 ks1.length cks1] 36)) (xs ++ Tm.levss s k1 n1 ns1 0 (ks1.take j) l) v0 wr) (fun _ _ _ n _ => ks1.length - (intOf n).toNat)
    case atStart => exact ⟨0, _, by omega, rfl, rfl, by simpa [Tm.levss] using HO.out.alloc _, HB0.out.alloc hsz _, KeepT.refl _ _⟩
    case round =>
      obtain ⟨j, v0, hj, rfl, rfl, hgn⟩ := hrel
      have hb := hgn.2.1
      have HGN := hid hgn
      have hcb := hgn.2.2 w.heap.size #[.int .i64 k1, .int .i64 u1, .string n1, .int .i64 tk1, .string tn1, .slice atks1 tks1.length ctks1, .slice ans1 ns1.length cns1, .slice aks1 ks1.length cks1] 36 (0, 0) (heap_alloc_new w _) (by decide)
      have hcl := (Array.getElem?_eq_some_iff.1 hcb).1
      have HBW := hid hb
      have HCB := hid hcb
      clear hgn hb hcb
      by_cases hlt : j < ks1.length
      case neg =>
        have hlv : Tm.levss s k1 n1 ns1 0 (ks1.take j) l = Tm.levss s k1 n1 ns1 0 ks1 l := by rw [List.take_of_length_le (by omega)]
        have HP := hid (show GrowPost 2 w0 w (xs ++ Tm.levs s (Tm.mk k1 u1 n1 (Ty.mk tk1 tn1 tks1) ns1 ks1) l) (.returned v0) wr from GrowPost.from ⟨_, rfl, by rw [HF.out, ← hlv]; exact HGN.out⟩ (KeepT.of_below ((Below.refl _ _).alloc (Nat.le_refl _) _)))
        clear hlv
        go_wp2_with fail
        go_ret
        exact HP.out
      case pos =>
        obtain ⟨b, o, rfl, hbl, hall⟩ := H4.out (by omega)
        obtain ⟨t, ht⟩ : ∃ t, ks1[j]? = some t := ⟨_, List.getElem?_eq_getElem hlt⟩
        obtain ⟨k3, u3, n3, ⟨tk3, tn3, tks3⟩, ns3, ks3⟩ := t
        obtain ⟨atks3, ctks3, ans3, cns3, aks3, cks3, q0, q1, q2, q3, q4, q5, q6, q7, hrk⟩ := hall j k3 u3 n3 tk3 tn3 tks3 ns3 ks3 ht
        clear hall H4
        have hbg := Tm.bulk_get ks1 j _ ht
        have hlt2 := Tm.levss_take s k1 n1 ns1 ks1 0 j _ l ht
        rw [Nat.zero_add] at hlt2
        have hll := Tm.levss_len s k1 n1 ns1 0 (ks1.take j) l
        have hbt : Tm.bulks (ks1.take j) + 1 + Tm.bulk (Tm.mk k3 u3 n3 (Ty.mk tk3 tn3 tks3) ns3 ks3) ≤ Tm.bulks ks1 := by have h1 := Tm.bulks_take ks1 j _ ht; have h2 := Tm.bulks_le ks1 (j + 1); omega
        have hxl : (xs ++ Tm.levss s k1 n1 ns1 0 (ks1.take j) l).length + 1 + Tm.bulk (Tm.mk k3 u3 n3 (Ty.mk tk3 tn3 tks3) ns3 ks3) ≤ 4194304 := by have := HK.out; have := HXM.out; rw [List.length_append]; omega
        have hgk := Tm.goods_get ks1 j _ HGK.out ht
        have hbk1 : Below wr.heap.size wr (wr.alloc (.cells #[.int .i64 k3, .int .i64 u3, .string n3, .int .i64 tk3, .string tn3, .slice atks3 tks3.length ctks3, .slice ans3 ns3.length cns3, .slice aks3 ks3.length cks3] 36)) := (Below.refl _ _).alloc (Nat.le_refl _) _
        have HBA := hid (HBW.out.trans (hbk1.mono HBW.out.size))
        have HGA := hid (HGN.out.below hbk1)
        have HKB := hid (show (wr.alloc (.cells #[.int .i64 k3, .int .i64 u3, .string n3, .int .i64 tk3, .string tn3, .slice atks3 tks3.length ctks3, .slice ans3 ns3.length cns3, .slice aks3 ks3.length cks3] 36)).heap[w.heap.size]? = some (.cells #[.int .i64 k1, .int .i64 u1, .string n1, .int .i64 tk1, .string tn1, .slice atks1 tks1.length ctks1, .slice ans1 ns1.length cns1, .slice (some ⟨b, o, none⟩) ks1.length cks1] 36) from (Below.heap_alloc wr (.cells #[.int .i64 k3, .int .i64 u3, .string n3, .int .i64 tk3, .string tn3, .slice atks3 tks3.length ctks3, .slice ans3 ns3.length cns3, .slice aks3 ks3.length cks3] 36) _ hcl).trans HCB.out)
        have HKK := hid (heap_alloc_new wr (.cells #[.int .i64 k3, .int .i64 u3, .string n3, .int .i64 tk3, .string tn3, .slice atks3 tks3.length ctks3, .slice ans3 ns3.length cns3, .slice aks3 ks3.length cks3] 36))
        have hbn := impl_bound k1 u1 n1 tk1 tn1 tks1 ns1 ks1 atks1 ctks1 ans1 cns1 (some ⟨b, o, none⟩) cks1 j (wr.alloc (.cells #[.int .i64 k3, .int .i64 u3, .string n3, .int .i64 tk3, .string tn3, .slice atks3 tks3.length ctks3, .slice ans3 ns3.length cns3, .slice aks3 ks3.length cks3] 36)) (HFN.out.below HBA.out)
        have hc := fun W hW ho => IH.out w0 k3 u3 n3 tk3 tn3 tks3 ns3 ks3 atks3 ctks3 ans3 cns3 aks3 cks3 l v0 (xs ++ Tm.levss s k1 n1 ns1 0 (ks1.take j) l) W (by have := HK.out; have := HN.out; omega) (by have := HK.out; have := HM.out; omega) (by omega) (by have := HK.out; have := HLM.out; omega) hxl hgk hrk hW ho
        rw [List.append_assoc] at hc
        generalize hbo : boundOf k1 n1 ns1 j = bs at hlt2 hbn
        have htr := fun W => impl_truth false W
        simp only [Bool.false_eq_true, if_false] at htr
        have HTR := hid htr
        have HLT := hid hlt2
        have HBN := hid hbn
        have HC := hid hc
        have d0 := (HBW.out.cell (p := ⟨b, o + j * 8, none⟩) hbl).trans q0
        have d1 := (HBW.out.cell (p := ⟨b, o + j * 8 + 1, none⟩) hbl).trans q1
        have d2 := (HBW.out.cell (p := ⟨b, o + j * 8 + 2, none⟩) hbl).trans q2
        have d3 := (HBW.out.cell (p := ⟨b, o + j * 8 + 3, none⟩) hbl).trans q3
        have d4 := (HBW.out.cell (p := ⟨b, o + j * 8 + 4, none⟩) hbl).trans q4
        have d5 := (HBW.out.cell (p := ⟨b, o + j * 8 + 5, none⟩) hbl).trans q5
        have d6 := (HBW.out.cell (p := ⟨b, o + j * 8 + 6, none⟩) hbl).trans q6
        have d7 := (HBW.out.cell (p := ⟨b, o + j * 8 + 7, none⟩) hbl).trans q7
        have e0 := heap_cell HKB.out (j := 0) rfl
        have e1 := heap_cell HKB.out (j := 1) rfl
        have e2 := heap_cell HKB.out (j := 2) rfl
        have e3 := heap_cell HKB.out (j := 3) rfl
        have e4 := heap_cell HKB.out (j := 4) rfl
        have e5 := heap_cell HKB.out (j := 5) rfl
        have e6 := heap_cell HKB.out (j := 6) rfl
        have e7 := heap_cell HKB.out (j := 7) rfl
        clear hlt2 hbn hc htr ht hrk q0 q1 q2 q3 q4 q5 q6 q7 hbg hll hbt hxl hbo hbk1 hgk hcl
        by_cases hh : hasStr bs s = true
        case pos =>
          have HV := hid (show offOf bs s (Tm.levs s (Tm.mk k3 u3 n3 (Ty.mk tk3 tn3 tks3) ns3 ks3) l) = [] by rw [offOf, hh]; rfl)
          have HH := hid hh
          clear hh
          go_wp2_with fail
          refine HBN.out.mono ?_
          rintro e w2 ⟨vb, rfl, hs, hb2⟩
          have HLQ := hid (has_L _ _ s w2 hs)
          obtain ⟨a2, c2, rfl, -⟩ := hs
          have HG2 := hid (HGA.out.below hb2)
          clear hb2 HBN e0 d0 e1 d1 e2 d2 e3 d3 e4 d4 e5 d5 e6 d6 e7 d7
          go_wp2_with fail
          refine HLQ.out.mono ?_
          rw [HH.out]
          rintro e w3 ⟨rfl, rfl⟩
          go_wp2_with fail
          go_roundw
          case rel => exact ⟨j + 1, _, by omega, by go_num, rfl, by rw [HLT.out, HV.out, List.append_nil]; exact HG2.out⟩
          case measure => simp [intOf]; omega
        case neg =>
          have hhf := (Bool.not_eq_true _).mp hh
          have HV := hid (show offOf bs s (Tm.levs s (Tm.mk k3 u3 n3 (Ty.mk tk3 tn3 tks3) ns3 ks3) l) = Tm.levs s (Tm.mk k3 u3 n3 (Ty.mk tk3 tn3 tks3) ns3 ks3) l by rw [offOf, hhf]; rfl)
          have HH := hid hhf
          clear hh hhf
          go_wp2_with fail
          refine HBN.out.mono ?_
          rintro e w2 ⟨vb, rfl, hs, hb2⟩
          have HLQ := hid (has_L _ _ s w2 hs)
          obtain ⟨a2, c2, rfl, -⟩ := hs
          have HG2 := hid (HGA.out.below hb2)
          have HKB2 := hid ((hb2.block _ (Array.getElem?_eq_some_iff.1 HKB.out).1).trans HKB.out)
          have HKK2 := hid ((hb2.block _ (Array.getElem?_eq_some_iff.1 HKK.out).1).trans HKK.out)
          clear hb2 HBN e0 d0 e1 d1 e2 d2 e3 d3 e4 d4 e5 d5 e6 d6 e7 d7
          go_wp2_with fail
          refine HLQ.out.mono ?_
          rw [HH.out]
          rintro e w3 ⟨rfl, rfl⟩
          have hS : ∀ V : World, Below w0.heap.size w0 V → V.heap[w.heap.size]? = some (.cells #[.int .i64 k1, .int .i64 u1, .string n1, .int .i64 tk1, .string tn1, .slice atks1 tks1.length ctks1, .slice ans1 ns1.length cns1, .slice (some ⟨b, o, none⟩) ks1.length cks1] 36) → V.heap[wr.heap.size]? = some (.cells #[.int .i64 k3, .int .i64 u3, .string n3, .int .i64 tk3, .string tn3, .slice atks3 tks3.length ctks3, .slice ans3 ns3.length cns3, .slice aks3 ks3.length cks3] 36) → (Below w0.heap.size w0 V ∧ V.heap[w.heap.size]? = some (.cells #[.int .i64 k1, .int .i64 u1, .string n1, .int .i64 tk1, .string tn1, .slice atks1 tks1.length ctks1, .slice ans1 ns1.length cns1, .slice (some ⟨b, o, none⟩) ks1.length cks1] 36) ∧ V.heap[wr.heap.size]? = some (.cells #[.int .i64 k3, .int .i64 u3, .string n3, .int .i64 tk3, .string tn3, .slice atks3 tks3.length ctks3, .slice ans3 ns3.length cns3, .slice aks3 ks3.length cks3] 36) ∧ V.cell? ⟨w.heap.size, 0, none⟩ = some (.int .i64 k1) ∧ V.cell? ⟨w.heap.size, 1, none⟩ = some (.int .i64 u1) ∧ V.cell? ⟨w.heap.size, 2, none⟩ = some (.string n1) ∧ V.cell? ⟨w.heap.size, 3, none⟩ = some (.int .i64 tk1) ∧ V.cell? ⟨w.heap.size, 4, none⟩ = some (.string tn1) ∧ V.cell? ⟨w.heap.size, 5, none⟩ = some (.slice atks1 tks1.length ctks1) ∧ V.cell? ⟨w.heap.size, 6, none⟩ = some (.slice ans1 ns1.length cns1) ∧ V.cell? ⟨w.heap.size, 7, none⟩ = some (.slice (some ⟨b, o, none⟩) ks1.length cks1) ∧ V.cell? ⟨wr.heap.size, 0, none⟩ = some (.int .i64 k3) ∧ V.cell? ⟨wr.heap.size, 1, none⟩ = some (.int .i64 u3) ∧ V.cell? ⟨wr.heap.size, 2, none⟩ = some (.string n3) ∧ V.cell? ⟨wr.heap.size, 3, none⟩ = some (.int .i64 tk3) ∧ V.cell? ⟨wr.heap.size, 4, none⟩ = some (.string tn3) ∧ V.cell? ⟨wr.heap.size, 5, none⟩ = some (.slice atks3 tks3.length ctks3) ∧ V.cell? ⟨wr.heap.size, 6, none⟩ = some (.slice ans3 ns3.length cns3) ∧ V.cell? ⟨wr.heap.size, 7, none⟩ = some (.slice aks3 ks3.length cks3)) :=
            fun V h1 h2 h3 => ⟨h1, h2, h3, heap_cell h2 rfl, heap_cell h2 rfl, heap_cell h2 rfl, heap_cell h2 rfl, heap_cell h2 rfl, heap_cell h2 rfl, heap_cell h2 rfl, heap_cell h2 rfl, heap_cell h3 rfl, heap_cell h3 rfl, heap_cell h3 rfl, heap_cell h3 rfl, heap_cell h3 rfl, heap_cell h3 rfl, heap_cell h3 rfl, heap_cell h3 rfl⟩
          have HS := hid hS
          have hbd : Below w0.heap.size w0 w2.drew := HG2.out.2.1.drew
          have hod := ownsRow.below HG2.out.1 ((Below.refl w2.heap.size w2).drew)
          have HSD := hid (hS w2.drew hbd HKB2.out HKK2.out)
          have HOD := hid hod
          obtain ⟨-, -, -, s0, s1, s2, s3, s4, s5, s6, s7, s8, s9, s10, s11, s12, s13, s14, s15⟩ := hS w2.drew hbd HKB2.out HKK2.out
          clear hS hod
          have hs2 : IntKind.i64.wrap l = l := IntWalk.i64_in _ (by omega)
          go_wp2_with fail
          go_region_held3 (fun V => (Below w0.heap.size w0 V ∧ V.heap[w.heap.size]? = some (.cells #[.int .i64 k1, .int .i64 u1, .string n1, .int .i64 tk1, .string tn1, .slice atks1 tks1.length ctks1, .slice ans1 ns1.length cns1, .slice (some ⟨b, o, none⟩) ks1.length cks1] 36) ∧ V.heap[wr.heap.size]? = some (.cells #[.int .i64 k3, .int .i64 u3, .string n3, .int .i64 tk3, .string tn3, .slice atks3 tks3.length ctks3, .slice ans3 ns3.length cns3, .slice aks3 ks3.length cks3] 36) ∧ V.cell? ⟨w.heap.size, 0, none⟩ = some (.int .i64 k1) ∧ V.cell? ⟨w.heap.size, 1, none⟩ = some (.int .i64 u1) ∧ V.cell? ⟨w.heap.size, 2, none⟩ = some (.string n1) ∧ V.cell? ⟨w.heap.size, 3, none⟩ = some (.int .i64 tk1) ∧ V.cell? ⟨w.heap.size, 4, none⟩ = some (.string tn1) ∧ V.cell? ⟨w.heap.size, 5, none⟩ = some (.slice atks1 tks1.length ctks1) ∧ V.cell? ⟨w.heap.size, 6, none⟩ = some (.slice ans1 ns1.length cns1) ∧ V.cell? ⟨w.heap.size, 7, none⟩ = some (.slice (some ⟨b, o, none⟩) ks1.length cks1) ∧ V.cell? ⟨wr.heap.size, 0, none⟩ = some (.int .i64 k3) ∧ V.cell? ⟨wr.heap.size, 1, none⟩ = some (.int .i64 u3) ∧ V.cell? ⟨wr.heap.size, 2, none⟩ = some (.string n3) ∧ V.cell? ⟨wr.heap.size, 3, none⟩ = some (.int .i64 tk3) ∧ V.cell? ⟨wr.heap.size, 4, none⟩ = some (.string tn3) ∧ V.cell? ⟨wr.heap.size, 5, none⟩ = some (.slice atks3 tks3.length ctks3) ∧ V.cell? ⟨wr.heap.size, 6, none⟩ = some (.slice ans3 ns3.length cns3) ∧ V.cell? ⟨wr.heap.size, 7, none⟩ = some (.slice aks3 ks3.length cks3)))
            (first | assumption | exact HSD.out | exact HS.out _ hbS hcS hkS | go_keep)
            (first
              | (go_at_call 99; (with_reducible refine (HTR.out _).mono ?_); rintro e V2 ⟨rfl, rfl⟩)
              | (go_at_call 69; (with_reducible refine (HC.out _ ?_ ?_).mono ?_); (exact (‹Below w0.heap.size w0 _ ∧ _›).1); (exact HOD.out); rintro e Vz ⟨vz, rfl, hgn3⟩; have HG3 := hid hgn3; have hu := ‹Below w0.heap.size w0 _ ∧ _ ∧ _ ∧ _›; have hbS := hgn3.2.1; have hcS := hgn3.2.2 _ _ _ _ hu.2.1 (by decide); have hkS := hgn3.2.2 _ _ _ _ hu.2.2.1 (by decide); clear hgn3 hu))
          clear hbd hs2 hbS hcS hkS
          go_wp2_with fail
          go_roundw
          case rel => exact ⟨j + 1, _, by omega, by go_num, rfl, by rw [HLT.out, HV.out]; exact (HG2.out.below ((Below.refl w2.heap.size w2).drew)).step HG3.out⟩
          case measure => simp [intOf]; omega
theorem addLevels_all (s : ByteArray) : ∀ N, LviW s N
  | 0 => fun _ _ _ _ _ _ _ _ _ _ _ _ _ _ _ _ _ _ _  h => absurd h (by omega)
  | N + 1 => addLevels_step s N (addLevels_all s N)
theorem impl_LevelsOf (k1 : Int) (u1 : Int) (n1 : ByteArray) (tk1 : Int) (tn1 : ByteArray) (tks1 : List Ty) (ns1 : List ByteArray) (ks1 : List Tm) (atks1 : Option Addr) (ctks1 : Nat) (ans1 : Option Addr) (cns1 : Nat) (aks1 : Option Addr) (cks1 : Nat) (s : ByteArray) (w : World) (hM : Tm.bulk (Tm.mk k1 u1 n1 (Ty.mk tk1 tn1 tks1) ns1 ks1) ≤ 1048576) (hr : RdS w (Tm.d (Tm.mk k1 u1 n1 (Ty.mk tk1 tn1 tks1) ns1 ks1)) [.int .i64 k1, .int .i64 u1, .string n1, .int .i64 tk1, .string tn1, .slice atks1 tks1.length ctks1, .slice ans1 ns1.length cns1, .slice aks1 ks1.length cks1]) :
    Calls Try.prog 33 #[.agg #[.int .i64 k1, .int .i64 u1, .string n1, .int .i64 tk1, .string tn1, .slice atks1 tks1.length ctks1, .slice ans1 ns1.length cns1, .slice aks1 ks1.length cks1], .string s] w (GivesIns (levN (Tm.mk k1 u1 n1 (Ty.mk tk1 tn1 tks1) ns1 ks1) s) w) := by
  have hB := (Below.refl w.heap.size w).alloc (Nat.le_refl _) (.cells #[.int .i64 k1, .int .i64 u1, .string n1, .int .i64 tk1, .string tn1, .slice atks1 tks1.length ctks1, .slice ans1 ns1.length cns1, .slice aks1 ks1.length cks1] 36)
  have HX0 := hid ((Boxes.nil w).alloc #[.int .i64 k1, .int .i64 u1, .string n1, .int .i64 tk1, .string tn1, .slice atks1 tks1.length ctks1, .slice ans1 ns1.length cns1, .slice aks1 ks1.length cks1] 36 (0, 0))
  have hc := impl_ValidTerm k1 u1 n1 tk1 tn1 tks1 ns1 ks1 atks1 ctks1 ans1 cns1 aks1 cks1 (w.alloc (.cells #[.int .i64 k1, .int .i64 u1, .string n1, .int .i64 tk1, .string tn1, .slice atks1 tks1.length ctks1, .slice ans1 ns1.length cns1, .slice aks1 ks1.length cks1] 36)) hM (hr.below hB)
  have hIN := levN_in (Tm.mk k1 u1 n1 (Ty.mk tk1 tn1 tks1) ns1 ks1) s hM
  have HB := hid hB
  by_cases hok : Tm.ok (Tm.mk k1 u1 n1 (Ty.mk tk1 tn1 tks1) ns1 ks1) = true
  case neg =>
    have HF := hid (levN_no s ((Bool.not_eq_true _).mp hok))
    rw [(Bool.not_eq_true _).mp hok] at hc
    have HC := hid hc
    clear hc hok hM hr hB HX0 hIN
    go_enter Try.func33, Try.ntmps33
    go_wp2_with fail
    refine HC.out.mono ?_
    rintro e w1 ⟨rfl, hb⟩
    have HB1 := hid (HB.out.trans (hb.mono HB.out.size))
    clear hb
    go_wp2_with fail
    go_ret
    rw [HF.out]
    exact GivesIns.nil HB1.out
  case pos =>
    have hg : Tm.good (Tm.mk k1 u1 n1 (Ty.mk tk1 tn1 tks1) ns1 ks1) = true := by simp only [Tm.ok, Bool.and_eq_true] at hok; exact hok.1
    have HF := hid (levN_yes s hok)
    rw [hok] at hc
    have HC := hid hc
    have HR := hid hr
    have HIN := hid hIN
    have HMM := hid hM
    have HG := hid hg
    clear hc hok hM hr hB hIN hg
    go_enter Try.func33, Try.ntmps33
    go_wp2_with fail
    refine HC.out.mono ?_
    rintro e w1 ⟨rfl, hb⟩
    have HB1 := hid (HB.out.trans (hb.mono HB.out.size))
    have HX1 := hid (HX0.out.below hb)
    have y0 := HX1.out.at 0 0 rfl rfl
    have y1 := HX1.out.at 0 1 rfl rfl
    have y2 := HX1.out.at 0 2 rfl rfl
    have y3 := HX1.out.at 0 3 rfl rfl
    have y4 := HX1.out.at 0 4 rfl rfl
    have y5 := HX1.out.at 0 5 rfl rfl
    have y6 := HX1.out.at 0 6 rfl rfl
    have y7 := HX1.out.at 0 7 rfl rfl
    have hs := addLevels_all s (Tm.bulk (Tm.mk k1 u1 n1 (Ty.mk tk1 tn1 tks1) ns1 ks1) + 1) w1 k1 u1 n1 tk1 tn1 tks1 ns1 ks1 atks1 ctks1 ans1 cns1 aks1 cks1 0 (.slice none 0 0) [] w1 (by omega) HMM.out (by omega) (by have := HMM.out; omega) (by have := HMM.out; simp; omega) HG.out (HR.out.below HB1.out) (Below.refl _ _) (World.ownsRow_nil _ _ _ _)
    have HS := hid hs
    clear hb hs
    go_wp2_with fail
    refine HS.out.mono ?_
    rintro e w2 ⟨v2, rfl, hg⟩
    have HP := hid (GivesIns.of_grow HB1.out hg (by rw [List.nil_append, ← HF.out]; exact HIN.out))
    clear hg y0 y1 y2 y3 y4 y5 y6 y7
    go_wp2_with fail
    go_ret
    rw [HF.out]
    exact HP.out
end Go.Proofs.Ytdcifcfkjhpokaa
