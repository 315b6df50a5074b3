/- Walks: the free names in the program. -/
import Derived.Test.YtdcifcfkjhpokaaFrS
namespace Go.Proofs.Ytdcifcfkjhpokaa
open Go.ChangeShapes Go.WideShapes Go.ChangeAt Go.RowKit Go.BigFrame
open Go.Sort (grow)
set_option linter.unusedVariables false

theorem two_new0 (w : World) (a b : Value) (t : TypeId) : (w.alloc (.cells #[a, b] t)).cell? ⟨w.heap.size, 0, none⟩ = some a := by
  have hh : (w.alloc (.cells #[a, b] t (0, 0))).heap[w.heap.size]? = some (.cells #[a, b] t (0, 0)) := heap_alloc_new w _
  simp only [World.cell?, hh]
  simp
theorem two_new1 (w : World) (a b : Value) (t : TypeId) : (w.alloc (.cells #[a, b] t)).cell? ⟨w.heap.size, 1, none⟩ = some b := by
  have hh : (w.alloc (.cells #[a, b] t (0, 0))).heap[w.heap.size]? = some (.cells #[a, b] t (0, 0)) := heap_alloc_new w _
  simp only [World.cell?, hh]
  simp
def FriW (N : Nat) : Prop := ∀ (w0 : World) (k1 : Int) (u1 : Int) (n1 : ByteArray) (tk1 : Int) (tn1 : ByteArray) (tks1 : List Ty) (ns1 : List ByteArray) (ks1 : List Tm) (atks1 : Option Addr) (ctks1 : Nat) (ans1 : Option Addr) (cns1 : Nat) (aks1 : Option Addr) (cks1 : Nat) (sc out : List ByteArray) (vs v : Value) (w : World), Tm.bulk (Tm.mk k1 u1 n1 (Ty.mk tk1 tn1 tks1) ns1 ks1) < N → Tm.bulk (Tm.mk k1 u1 n1 (Ty.mk tk1 tn1 tks1) ns1 ks1) ≤ 1048576 → sc.length + 1 + Tm.bulk (Tm.mk k1 u1 n1 (Ty.mk tk1 tn1 tks1) ns1 ks1) ≤ 4194304 → out.length + 1 + Tm.bulk (Tm.mk k1 u1 n1 (Ty.mk tk1 tn1 tks1) ns1 ks1) ≤ 4194304 → Tm.good (Tm.mk k1 u1 n1 (Ty.mk tk1 tn1 tks1) ns1 ks1) = true → RdS w0 (Tm.d (Tm.mk k1 u1 n1 (Ty.mk tk1 tn1 tks1) ns1 ks1)) [.int .i64 k1, .int .i64 u1, .string n1, .int .i64 tk1, .string tn1, .slice atks1 tks1.length ctks1, .slice ans1 ns1.length cns1, .slice aks1 ks1.length cks1] → Below w0.heap.size w0 w → StrsL w sc vs → NotOwn sc vs v → w.ownsRow w0.heap.size 9 1 v out.length (out.map Value.string) →
  Calls Try.prog 109 #[.agg #[.int .i64 k1, .int .i64 u1, .string n1, .int .i64 tk1, .string tn1, .slice atks1 tks1.length ctks1, .slice ans1 ns1.length cns1, .slice aks1 ks1.length cks1], vs, v] w (NPost w0 w v (Tm.free (Tm.mk k1 u1 n1 (Ty.mk tk1 tn1 tks1) ns1 ks1) sc out))
set_option maxRecDepth 100000 in
set_option maxHeartbeats 4000000 in
theorem addFree_step (N : Nat) (ih : FriW N) : FriW (N + 1) := by
  intro w0 k1 u1 n1 tk1 tn1 tks1 ns1 ks1 atks1 ctks1 ans1 cns1 aks1 cks1 sc out vs v w hN hM hsM hoM hg hr hb0 hL hno hown
  have hsz := hb0.size
  have HB0 := hid hb0
  have HO := hid hown
  have HL := hid hL
  have HNO := hid hno
  have hbx : Below w.heap.size w (w.alloc (.cells #[.int .i64 k1, .int .i64 u1, .string n1, .int .i64 tk1, .string tn1, .slice atks1 tks1.length ctks1, .slice ans1 ns1.length cns1, .slice aks1 ks1.length cks1] 36)) := (Below.refl _ _).alloc (Nat.le_refl _) _
  have HBX := hid hbx
  have HLQ := hid (has_L sc vs n1 _ (hL.below hbx))
  have HLO := hid (has_L out v n1 _ ((StrsL.of_own hown).below hbx))
  obtain ⟨ax, cx, rfl, -⟩ := hL
  clear hb0 hown hno hbx
  by_cases h1 : k1 = 1
  case pos =>
    subst h1
    have HZ := hid (show ks1.length = 0 by rw [Tm.good_var0 hg]; rfl)
    clear hr ih hN hg hM
    by_cases hh : hasStr sc n1 = true
    case pos =>
      have HF := hid (Tm.free_has (u := u1) (t := Ty.mk tk1 tn1 tks1) (ns := ns1) (ks := ks1) (out := out) hh)
      rw [hh] at HLQ
      clear hh hoM hsM HLO
      go_enter Try.func109, Try.ntmps109
      go_wp2_with fail
      refine HLQ.out.mono ?_
      rintro e w3 ⟨rfl, rfl⟩
      go_wp2_with fail
      go_loopw [2, 7, 8, 34] (fun u _ _ n wr => ∃ (j : Nat), j = 0 ∧ u = v ∧ n = .int .i64 j ∧ wr = w.alloc (.cells #[.int .i64 1, .int .i64 u1, .string n1, .int .i64 tk1, .string tn1, .slice atks1 tks1.length ctks1, .slice ans1 ns1.length cns1, .slice aks1 ks1.length cks1] 36)) (fun _ _ _ n _ => 0)
      case atStart => exact ⟨0, rfl, rfl, rfl, rfl⟩
      case round =>
        obtain ⟨j, hj, rfl, rfl, rfl⟩ := hrel
        have hlt : ¬ j < ks1.length := by have := HZ.out; omega
        go_wp2_with fail
        go_ret
        rw [HF.out]
        exact ⟨_, rfl, (NNow.refl HO.out HB0.out).below HBX.out⟩
    case neg =>
    have hhf := (Bool.not_eq_true _).mp hh
    rw [hhf] at HLQ
    clear hh
    by_cases hq : hasStr out n1 = true
    case pos =>
      have HF := hid (Tm.free_out (u := u1) (t := Ty.mk tk1 tn1 tks1) (ns := ns1) (ks := ks1) hhf hq)
      rw [hq] at HLO
      clear hq hhf hoM hsM
      go_enter Try.func109, Try.ntmps109
      go_wp2_with fail
      refine HLQ.out.mono ?_
      rintro e w3 ⟨rfl, rfl⟩
      go_wp2_with fail
      refine HLO.out.mono ?_
      rintro e w3 ⟨rfl, rfl⟩
      go_wp2_with fail
      go_loopw [2, 7, 8, 34] (fun u _ _ n wr => ∃ (j : Nat), j = 0 ∧ u = v ∧ n = .int .i64 j ∧ wr = w.alloc (.cells #[.int .i64 1, .int .i64 u1, .string n1, .int .i64 tk1, .string tn1, .slice atks1 tks1.length ctks1, .slice ans1 ns1.length cns1, .slice aks1 ks1.length cks1] 36)) (fun _ _ _ n _ => 0)
      case atStart => exact ⟨0, rfl, rfl, rfl, rfl⟩
      case round =>
        obtain ⟨j, hj, rfl, rfl, rfl⟩ := hrel
        have hlt : ¬ j < ks1.length := by have := HZ.out; omega
        go_wp2_with fail
        go_ret
        rw [HF.out]
        exact ⟨_, rfl, (NNow.refl HO.out HB0.out).below HBX.out⟩
    case neg =>
      have hqf := (Bool.not_eq_true _).mp hq
      have HF := hid (Tm.free_new (u := u1) (t := Ty.mk tk1 tn1 tks1) (ns := ns1) (ks := ks1) hhf hqf)
      rw [hqf] at HLO
      have HOM := hid hoM
      clear hq hqf hhf hoM hsM
      have h1n := StrsL.one (w.alloc (.cells #[.int .i64 1, .int .i64 u1, .string n1, .int .i64 tk1, .string tn1, .slice atks1 tks1.length ctks1, .slice ans1 ns1.length cns1, .slice aks1 ks1.length cks1] 36)) n1 9
      rw [World.size_alloc] at h1n
      have H1N := hid h1n
      have HBA := hid (HBX.out.alloc HBX.out.size (.cells #[.string n1] 9))
      clear h1n
      go_enter Try.func109, Try.ntmps109
      go_wp2_with fail
      refine HLQ.out.mono ?_
      rintro e w3 ⟨rfl, rfl⟩
      go_wp2_with fail
      refine HLO.out.mono ?_
      rintro e w3 ⟨rfl, rfl⟩
      go_wp2_with (at_builtin; refine wpList_append_namesF rfl _ _ rfl w0.heap.size _ out [n1] _ rfl rfl ((HO.out.alloc _).alloc _) H1N.out (by simp) ?c1 ?c2 ?_)
      case c1 => have := HOM.out; simp; omega
      case c2 => simp; omega
      intro v2 w2 ho2 hg2 hf2
      have HNN := hid (NNow.one HB0.out HO.out HBA.out (by simpa using ho2) hg2 (by simpa using hf2))
      clear ho2 hg2 hf2
      go_wp2_with fail
      go_ret
      rw [HF.out]
      exact ⟨_, rfl, HNN.out⟩
  case neg =>
  have g1 : (k1 == 1) = false := by simp [h1]
  have HF := hid (Tm.free_mk h1 u1 n1 (Ty.mk tk1 tn1 tks1) ns1 ks1 sc out)
  have HGK := hid (Tm.good_kids0 hg)
  have hbk : Tm.bulks ks1 + ns1.length ≤ Tm.bulk (Tm.mk k1 u1 n1 (Ty.mk tk1 tn1 tks1) ns1 ks1) := by have := Sr.bulks_length ns1; simp only [Tm.bulk]; omega
  have hfk := hr.fTm.2.2.2.2.2
  have hfn := hr.fTm.2.2.2.2.1
  obtain ⟨_, _, e, h2, h3, h4⟩ := hfk.eTm
  simp only [Value.slice.injEq, true_and] at e
  obtain ⟨rfl, rfl⟩ := e
  have hbc := Tm.bulks_length ks1
  have hlk : ks1.length ≤ 1048576 := by omega
  have IH := hid ih
  have H4 := hid h4
  have HK := hid hbk
  have HM := hid hM
  have HN := hid hN
  have HFN := hid hfn
  have HSM := hid hsM
  have HOM := hid hoM
  clear ih hr h4 hbk hN hM hsM hoM h1 hbc hfk hfn HLQ HLO hg
  go_enter Try.func109, Try.ntmps109
  go_wp2_with fail
  go_loopw [2, 7, 8, 34] (fun u _ _ n wr => ∃ (j : Nat) (v0 : Value), j ≤ ks1.length ∧ n = .int .i64 j ∧ v0 = u ∧ NNow w0 (w.alloc (.cells #[.int .i64 k1, .int .i64 u1, .string n1, .int .i64 tk1, .string tn1, .slice atks1 tks1.length ctks1, .slice ans1 ns1.length cns1, .slice aks1 ks1.length cks1] 36)) v (Tm.frees k1 n1 ns1 0 (ks1.take j) sc out) v0 wr) (fun _ _ _ n _ => ks1.length - (intOf n).toNat)
  case atStart => exact ⟨0, _, by omega, rfl, rfl, by simpa [Tm.frees] using NNow.refl (HO.out.alloc _) (HB0.out.alloc hsz _)⟩
  case round =>
    obtain ⟨j, v0, hj, rfl, rfl, hgn⟩ := hrel
    have hb := hgn.2.1
    have HGN := hid hgn
    have hcb := hgn.keep (HO.out.alloc _) w.heap.size #[.int .i64 k1, .int .i64 u1, .string n1, .int .i64 tk1, .string tn1, .slice atks1 tks1.length ctks1, .slice ans1 ns1.length cns1, .slice aks1 ks1.length cks1] 36 (0, 0) (heap_alloc_new w _) (by decide)
    have hcl := (Array.getElem?_eq_some_iff.1 hcb).1
    have HBW := hid hb
    have HCB := hid hcb
    clear hgn hb hcb
    by_cases hlt : j < ks1.length
    case neg =>
      have hlv : Tm.frees k1 n1 ns1 0 (ks1.take j) sc out = Tm.frees k1 n1 ns1 0 ks1 sc out := by rw [List.take_of_length_le (by omega)]
      have HP := hid (show NPost w0 w v (Tm.free (Tm.mk k1 u1 n1 (Ty.mk tk1 tn1 tks1) ns1 ks1) sc out) (.returned v0) wr from NPost.from ⟨_, rfl, by rw [HF.out, ← hlv]; exact HGN.out⟩ HBX.out)
      clear hlv
      go_wp2_with fail
      go_ret
      exact HP.out
    case pos =>
      obtain ⟨b, o, rfl, hbl, hall⟩ := H4.out (by omega)
      obtain ⟨t, ht⟩ : ∃ t, ks1[j]? = some t := ⟨_, List.getElem?_eq_getElem hlt⟩
      obtain ⟨k3, u3, n3, ⟨tk3, tn3, tks3⟩, ns3, ks3⟩ := t
      obtain ⟨atks3, ctks3, ans3, cns3, aks3, cks3, q0, q1, q2, q3, q4, q5, q6, q7, hrk⟩ := hall j k3 u3 n3 tk3 tn3 tks3 ns3 ks3 ht
      clear hall H4
      have hbg := Tm.bulk_get ks1 j _ ht
      have hlt2 := Tm.frees_take k1 n1 ns1 ks1 0 j _ sc out ht
      rw [Nat.zero_add] at hlt2
      have hll := Tm.frees_len k1 n1 ns1 0 (ks1.take j) sc out
      have hbt : Tm.bulks (ks1.take j) + 1 + Tm.bulk (Tm.mk k3 u3 n3 (Ty.mk tk3 tn3 tks3) ns3 ks3) ≤ Tm.bulks ks1 := by have h1 := Tm.bulks_take ks1 j _ ht; have h2 := Tm.bulks_le ks1 (j + 1); omega
      have hgk := Tm.goods_get ks1 j _ HGK.out ht
      have hbl2 := boundOf_len k1 n1 ns1 j
      have hbk1 : Below wr.heap.size wr (wr.alloc (.cells #[.int .i64 k3, .int .i64 u3, .string n3, .int .i64 tk3, .string tn3, .slice atks3 tks3.length ctks3, .slice ans3 ns3.length cns3, .slice aks3 ks3.length cks3] 36)) := (Below.refl _ _).alloc (Nat.le_refl _) _
      have hbA0 := HBW.out.trans (hbk1.mono HBW.out.size)
      have HKB := hid (show (wr.alloc (.cells #[.int .i64 k3, .int .i64 u3, .string n3, .int .i64 tk3, .string tn3, .slice atks3 tks3.length ctks3, .slice ans3 ns3.length cns3, .slice aks3 ks3.length cks3] 36)).heap[w.heap.size]? = some (.cells #[.int .i64 k1, .int .i64 u1, .string n1, .int .i64 tk1, .string tn1, .slice atks1 tks1.length ctks1, .slice ans1 ns1.length cns1, .slice (some ⟨b, o, none⟩) ks1.length cks1] 36) from (Below.heap_alloc wr (.cells #[.int .i64 k3, .int .i64 u3, .string n3, .int .i64 tk3, .string tn3, .slice atks3 tks3.length ctks3, .slice ans3 ns3.length cns3, .slice aks3 ks3.length cks3] 36) _ hcl).trans HCB.out)
      have HKK := hid (heap_alloc_new wr (.cells #[.int .i64 k3, .int .i64 u3, .string n3, .int .i64 tk3, .string tn3, .slice atks3 tks3.length ctks3, .slice ans3 ns3.length cns3, .slice aks3 ks3.length cks3] 36))
      have hbn := fun (W : World) (hW : Below w0.heap.size w0 W) => impl_bound k1 u1 n1 tk1 tn1 tks1 ns1 ks1 atks1 ctks1 ans1 cns1 (some ⟨b, o, none⟩) cks1 j W (HFN.out.below hW)
      have hc := fun vw W hW hs hn ho => IH.out w0 k3 u3 n3 tk3 tn3 tks3 ns3 ks3 atks3 ctks3 ans3 cns3 aks3 cks3 (sc ++ boundOf k1 n1 ns1 j) (Tm.frees k1 n1 ns1 0 (ks1.take j) sc out) vw v0 W (by have := HK.out; have := HN.out; omega) (by have := HK.out; have := HM.out; omega) (by have := HK.out; have := HSM.out; rw [List.length_append]; omega) (by have := HK.out; have := HOM.out; omega) hgk hrk hW hs hn ho
      have hle : sc.length + (boundOf k1 n1 ns1 j).length ≤ 4194304 := by have := HK.out; have := HSM.out; omega
      have hsc := HGN.out.scope (HL.out.below HBX.out) HNO.out
      generalize hbo : boundOf k1 n1 ns1 j = bs at hlt2 hbn hc hle
      generalize hfr : Tm.frees k1 n1 ns1 0 (ks1.take j) sc out = zs at hlt2 HGN hc
      have HLT := hid hlt2
      have HBN := hid hbn
      have HC := hid hc
      have HLE := hid hle
      have hS : ∀ V : World, Below w0.heap.size w0 V → V.heap[w.heap.size]? = some (.cells #[.int .i64 k1, .int .i64 u1, .string n1, .int .i64 tk1, .string tn1, .slice atks1 tks1.length ctks1, .slice ans1 ns1.length cns1, .slice (some ⟨b, o, none⟩) ks1.length cks1] 36) → V.heap[wr.heap.size]? = some (.cells #[.int .i64 k3, .int .i64 u3, .string n3, .int .i64 tk3, .string tn3, .slice atks3 tks3.length ctks3, .slice ans3 ns3.length cns3, .slice aks3 ks3.length cks3] 36) → (Below w0.heap.size w0 V ∧ V.heap[w.heap.size]? = some (.cells #[.int .i64 k1, .int .i64 u1, .string n1, .int .i64 tk1, .string tn1, .slice atks1 tks1.length ctks1, .slice ans1 ns1.length cns1, .slice (some ⟨b, o, none⟩) ks1.length cks1] 36) ∧ V.heap[wr.heap.size]? = some (.cells #[.int .i64 k3, .int .i64 u3, .string n3, .int .i64 tk3, .string tn3, .slice atks3 tks3.length ctks3, .slice ans3 ns3.length cns3, .slice aks3 ks3.length cks3] 36) ∧ V.cell? ⟨w.heap.size, 0, none⟩ = some (.int .i64 k1) ∧ V.cell? ⟨w.heap.size, 1, none⟩ = some (.int .i64 u1) ∧ V.cell? ⟨w.heap.size, 2, none⟩ = some (.string n1) ∧ V.cell? ⟨w.heap.size, 3, none⟩ = some (.int .i64 tk1) ∧ V.cell? ⟨w.heap.size, 4, none⟩ = some (.string tn1) ∧ V.cell? ⟨w.heap.size, 5, none⟩ = some (.slice atks1 tks1.length ctks1) ∧ V.cell? ⟨w.heap.size, 6, none⟩ = some (.slice ans1 ns1.length cns1) ∧ V.cell? ⟨w.heap.size, 7, none⟩ = some (.slice (some ⟨b, o, none⟩) ks1.length cks1) ∧ V.cell? ⟨wr.heap.size, 0, none⟩ = some (.int .i64 k3) ∧ V.cell? ⟨wr.heap.size, 1, none⟩ = some (.int .i64 u3) ∧ V.cell? ⟨wr.heap.size, 2, none⟩ = some (.string n3) ∧ V.cell? ⟨wr.heap.size, 3, none⟩ = some (.int .i64 tk3) ∧ V.cell? ⟨wr.heap.size, 4, none⟩ = some (.string tn3) ∧ V.cell? ⟨wr.heap.size, 5, none⟩ = some (.slice atks3 tks3.length ctks3) ∧ V.cell? ⟨wr.heap.size, 6, none⟩ = some (.slice ans3 ns3.length cns3) ∧ V.cell? ⟨wr.heap.size, 7, none⟩ = some (.slice aks3 ks3.length cks3)) := fun V h1 h2 h3 => ⟨h1, h2, h3, heap_cell h2 rfl, heap_cell h2 rfl, heap_cell h2 rfl, heap_cell h2 rfl, heap_cell h2 rfl, heap_cell h2 rfl, heap_cell h2 rfl, heap_cell h2 rfl, heap_cell h3 rfl, heap_cell h3 rfl, heap_cell h3 rfl, heap_cell h3 rfl, heap_cell h3 rfl, heap_cell h3 rfl, heap_cell h3 rfl, heap_cell h3 rfl⟩
      have HS := hid hS
      have hbd0 := hbk1.drew
      have HBD0 := hid hbd0
      have hbS : Below w0.heap.size w0 (wr.alloc (.cells #[.int .i64 k3, .int .i64 u3, .string n3, .int .i64 tk3, .string tn3, .slice atks3 tks3.length ctks3, .slice ans3 ns3.length cns3, .slice aks3 ks3.length cks3] 36)).drew := hbA0.drew
      have hcS : (wr.alloc (.cells #[.int .i64 k3, .int .i64 u3, .string n3, .int .i64 tk3, .string tn3, .slice atks3 tks3.length ctks3, .slice ans3 ns3.length cns3, .slice aks3 ks3.length cks3] 36)).drew.heap[w.heap.size]? = some (.cells #[.int .i64 k1, .int .i64 u1, .string n1, .int .i64 tk1, .string tn1, .slice atks1 tks1.length ctks1, .slice ans1 ns1.length cns1, .slice (some ⟨b, o, none⟩) ks1.length cks1] 36) := HKB.out
      have hkS : (wr.alloc (.cells #[.int .i64 k3, .int .i64 u3, .string n3, .int .i64 tk3, .string tn3, .slice atks3 tks3.length ctks3, .slice ans3 ns3.length cns3, .slice aks3 ks3.length cks3] 36)).drew.heap[wr.heap.size]? = some (.cells #[.int .i64 k3, .int .i64 u3, .string n3, .int .i64 tk3, .string tn3, .slice atks3 tks3.length ctks3, .slice ans3 ns3.length cns3, .slice aks3 ks3.length cks3] 36) := HKK.out
      have HSD := hid (hS _ hbS hcS hkS)
      have HOD := hid (ownsRow.below HGN.out.1 hbd0)
      have HSCD := hid (hsc.1.below hbd0)
      obtain ⟨-, -, -, s0, s1, s2, s3, s4, s5, s6, s7, s8, s9, s10, s11, s12, s13, s14, s15⟩ := hS _ hbS hcS hkS
      have d0 := (HBW.out.cell (p := ⟨b, o + j * 8, none⟩) hbl).trans q0
      have d1 := (HBW.out.cell (p := ⟨b, o + j * 8 + 1, none⟩) hbl).trans q1
      have d2 := (HBW.out.cell (p := ⟨b, o + j * 8 + 2, none⟩) hbl).trans q2
      have d3 := (HBW.out.cell (p := ⟨b, o + j * 8 + 3, none⟩) hbl).trans q3
      have d4 := (HBW.out.cell (p := ⟨b, o + j * 8 + 4, none⟩) hbl).trans q4
      have d5 := (HBW.out.cell (p := ⟨b, o + j * 8 + 5, none⟩) hbl).trans q5
      have d6 := (HBW.out.cell (p := ⟨b, o + j * 8 + 6, none⟩) hbl).trans q6
      have d7 := (HBW.out.cell (p := ⟨b, o + j * 8 + 7, none⟩) hbl).trans q7
      have e0 := heap_cell HKB.out (j := 0) rfl
      have e1 := heap_cell HKB.out (j := 1) rfl
      have e2 := heap_cell HKB.out (j := 2) rfl
      have e3 := heap_cell HKB.out (j := 3) rfl
      have e4 := heap_cell HKB.out (j := 4) rfl
      have e5 := heap_cell HKB.out (j := 5) rfl
      have e6 := heap_cell HKB.out (j := 6) rfl
      have e7 := heap_cell HKB.out (j := 7) rfl
      clear hlt2 hbn hc ht hrk q0 q1 q2 q3 q4 q5 q6 q7 hbg hll hbt hbo hfr hgk hbl2 hle hS hbd0 hbk1 hbA0 hcl hsc
      go_wp2_with fail
      go_region_held3 (fun V => (Below w0.heap.size w0 V ∧ V.heap[w.heap.size]? = some (.cells #[.int .i64 k1, .int .i64 u1, .string n1, .int .i64 tk1, .string tn1, .slice atks1 tks1.length ctks1, .slice ans1 ns1.length cns1, .slice (some ⟨b, o, none⟩) ks1.length cks1] 36) ∧ V.heap[wr.heap.size]? = some (.cells #[.int .i64 k3, .int .i64 u3, .string n3, .int .i64 tk3, .string tn3, .slice atks3 tks3.length ctks3, .slice ans3 ns3.length cns3, .slice aks3 ks3.length cks3] 36) ∧ V.cell? ⟨w.heap.size, 0, none⟩ = some (.int .i64 k1) ∧ V.cell? ⟨w.heap.size, 1, none⟩ = some (.int .i64 u1) ∧ V.cell? ⟨w.heap.size, 2, none⟩ = some (.string n1) ∧ V.cell? ⟨w.heap.size, 3, none⟩ = some (.int .i64 tk1) ∧ V.cell? ⟨w.heap.size, 4, none⟩ = some (.string tn1) ∧ V.cell? ⟨w.heap.size, 5, none⟩ = some (.slice atks1 tks1.length ctks1) ∧ V.cell? ⟨w.heap.size, 6, none⟩ = some (.slice ans1 ns1.length cns1) ∧ V.cell? ⟨w.heap.size, 7, none⟩ = some (.slice (some ⟨b, o, none⟩) ks1.length cks1) ∧ V.cell? ⟨wr.heap.size, 0, none⟩ = some (.int .i64 k3) ∧ V.cell? ⟨wr.heap.size, 1, none⟩ = some (.int .i64 u3) ∧ V.cell? ⟨wr.heap.size, 2, none⟩ = some (.string n3) ∧ V.cell? ⟨wr.heap.size, 3, none⟩ = some (.int .i64 tk3) ∧ V.cell? ⟨wr.heap.size, 4, none⟩ = some (.string tn3) ∧ V.cell? ⟨wr.heap.size, 5, none⟩ = some (.slice atks3 tks3.length ctks3) ∧ V.cell? ⟨wr.heap.size, 6, none⟩ = some (.slice ans3 ns3.length cns3) ∧ V.cell? ⟨wr.heap.size, 7, none⟩ = some (.slice aks3 ks3.length cks3)))
        (first | assumption | exact HSD.out | exact HS.out _ hbS hcS hkS | exact HS.out _ hbA hcA hkA | go_keep)
        (first
          | (go_at_call 104; (with_reducible refine (HBN.out _ hbS).mono ?_); rintro e W2 ⟨vb, rfl, hsb, hb2⟩; have hsb' := hsb; obtain ⟨ab, cb, rfl, -⟩ := hsb'; have hb2S := hbS.trans (hb2.mono hbS.size); have hb2C := (hb2.block _ (Array.getElem?_eq_some_iff.1 hcS).1).trans hcS; have hb2K := (hb2.block _ (Array.getElem?_eq_some_iff.1 hkS).1).trans hkS; clear hbS hcS hkS; have hbS := hb2S; have hcS := hb2C; have hkS := hb2K; clear hb2S hb2C hb2K; have hal := (Below.refl W2.heap.size W2).alloc (Nat.le_refl _) (.cells #[.slice ax sc.length cx, .slice ab bs.length cb] 25); have hbA := hbS.trans (hal.mono hbS.size); have hcA := (hal.block _ (Array.getElem?_eq_some_iff.1 hcS).1).trans hcS; have hkA := (hal.block _ (Array.getElem?_eq_some_iff.1 hkS).1).trans hkS; have HB2 := hid (hb2.trans (hal.mono hb2.size)); have HO2 := hid (ownsRow.below (ownsRow.below HOD.out hb2) hal); have HCAT := hid (concat_L sc bs _ (.slice ab bs.length cb) W2.heap.size _ (two_new0 W2 (.slice ax sc.length cx) (.slice ab bs.length cb) 25) (two_new1 W2 (.slice ax sc.length cx) (.slice ab bs.length cb) 25) ((HSCD.out.below hb2).below hal) (hsb.below hal) HLE.out); clear hsb hb2 hal)
          | (go_at_call 108; (with_reducible refine HCAT.out.mono ?_); rintro e W3 ⟨vw, rfl, how, hb3⟩; have HOW := hid how; have HB3 := hid hb3; have HO3 := hid (ownsRow.below HO2.out hb3); have HNF := hid (NotOwn.fresh HO2.out how); clear hbS hcS hkS; have hbS := hbA.trans (hb3.mono hbA.size); have hcS := (hb3.block _ (Array.getElem?_eq_some_iff.1 hcA).1).trans hcA; have hkS := (hb3.block _ (Array.getElem?_eq_some_iff.1 hkA).1).trans hkA; clear how hb3 hbA hcA hkA HCAT)
          | (go_at_call 109; (with_reducible refine (HC.out _ _ hbS ?_ ?_ ?_).mono ?_); (exact StrsL.of_own HOW.out); (exact HNF.out); (exact HO3.out); rintro e Vz ⟨vz, rfl, hgn3⟩; have HG3 := hid hgn3; have hcZ := hgn3.keep HO3.out _ _ _ _ hcS (by decide); have hkZ := hgn3.keep HO3.out _ _ _ _ hkS (by decide); clear hbS hcS hkS; have hbS := hgn3.2.1; have hcS := hcZ; have hkS := hkZ; clear hgn3 hcZ hkZ))
      clear hbS hcS hkS
      go_wp2_with fail
      go_roundw
      case rel => exact ⟨j + 1, _, by omega, by go_num, rfl, by rw [HLT.out]; exact (((HGN.out.below HBD0.out).below HB2.out).below HB3.out).step HG3.out⟩
      case measure => simp [intOf]; omega
theorem addFree_all : ∀ N, FriW N
  | 0 => fun _ _ _ _ _ _ _ _ _ _ _ _ _ _ _ _ _ _ _ _  h => absurd h (by omega)
  | N + 1 => addFree_step N (addFree_all N)
end Go.Proofs.Ytdcifcfkjhpokaa
