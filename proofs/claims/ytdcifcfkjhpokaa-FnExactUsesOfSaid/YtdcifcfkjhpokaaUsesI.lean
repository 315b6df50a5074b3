/- Walks: the uses of a name, in the program. -/
import Derived.Test.YtdcifcfkjhpokaaNm
import Derived.Test.YtdcifcfkjhpokaaTmBoxI
namespace Go.Proofs.Ytdcifcfkjhpokaa
open Go.ChangeShapes Go.WideShapes Go.ChangeAt Go.RowKit Go.BigFrame
open Go.Sort (grow)
set_option linter.unusedVariables false

theorem sumU_all (k : Int) (xs : List Int) (h : ∀ y ∈ xs, 0 ≤ y) : 0 ≤ sumU k 0 xs ∧ 0 ≤ maxU k 0 xs ∧ sumU k 0 xs + maxU k 0 xs ≤ xs.sum := by
  have := sm_le k xs 0 xs.length h
  rw [List.take_length] at this
  exact this
theorem le_sumU : ∀ l : List Int, (∀ y ∈ l, 0 ≤ y) → ∀ x ∈ l, x ≤ l.sum
  | [], _, x, hx => by simp at hx
  | y :: l, h, x, hx => by
    have h0 := h y (by simp)
    have hn : ∀ l : List Int, (∀ y ∈ l, 0 ≤ y) → 0 ≤ l.sum := by
      intro l
      induction l with
      | nil => intro _; simp
      | cons z l ih => intro hz; have := hz z (by simp); have := ih fun y hy => hz y (by simp [hy]); simp; omega
    have h1 := hn l fun z hz => h z (by simp [hz])
    rw [List.sum_cons]
    rcases List.mem_cons.1 hx with rfl | hx
    · omega
    · have := le_sumU l (fun z hz => h z (by simp [hz])) x hx; omega
set_option maxHeartbeats 4000000 in
theorem impl_combined (k1 : Int) (l : List Int) (a : Option Addr) (c : Nat) (w : World) (hp : ∀ y ∈ l, 0 ≤ y) (hls : l.sum ≤ 1048577) (hl : l.length ≤ 1048576) (hr : RdL w (In.ds l) (.slice a l.length c)) :
    Calls Try.prog 105 #[.int .i64 k1, .slice a l.length c] w fun e w' => e = .returned (.int .i64 (sumU k1 0 l + maxU k1 0 l)) ∧ w = w' := by
  obtain ⟨_, _, e, h2, h3, h4⟩ := hr.eIn
  simp only [Value.slice.injEq, true_and] at e
  obtain ⟨rfl, rfl⟩ := e
  have HSM := hid (fun j => sm_le k1 l 0 j hp)
  have HPO := hid hp
  have H4 := hid h4
  clear hp hr h4 h2 h3
  go_enter Try.func105, Try.ntmps105
  go_wp2_with fail
  go_loopw [5, 6, 7, 8, 11] (fun a c _ _ i wr => ∃ (j : Nat) (x y : Int), j ≤ l.length ∧ i = .int .i64 j ∧ a = .int .i64 x ∧ c = .int .i64 y ∧ Hid (x = sumU k1 0 (l.take j)) ∧ Hid (y = maxU k1 0 (l.take j)) ∧ w = wr) (fun _ _ _ _ i _ => l.length - (intOf i).toNat)
  case atStart => exact ⟨0, 0, 0, by omega, rfl, rfl, rfl, by simp [sumU, Hid], by simp [maxU, Hid], rfl⟩
  case round =>
    obtain ⟨j, x, y, hj, rfl, rfl, rfl, HX, HY, rfl⟩ := hrel
    have hsj := HSM.out j
    have hx0 : 0 ≤ x := by rw [HX.out]; exact hsj.1
    have hy0 : 0 ≤ y := by rw [HY.out]; exact hsj.2.1
    have hxy : x + y ≤ 1048577 := by have := HX.out; have := HY.out; omega
    have hxm : x ≤ 1048577 := by omega
    have hym : y ≤ 1048577 := by omega
    clear hsj
    by_cases hlt : j < l.length
    case neg =>
      obtain rfl : j = l.length := by omega
      have HE := hid (show x + y = sumU k1 0 l + maxU k1 0 l by rw [HX.out, HY.out, List.take_length])
      go_wp2_with fail
      go_ret
      exact ⟨ret_int HE.out, rfl⟩
    case pos =>
      obtain ⟨b, o, rfl, hbl, hall⟩ := H4.out (by omega)
      obtain ⟨uv, ht⟩ : ∃ t, l[j]? = some t := ⟨_, List.getElem?_eq_getElem hlt⟩
      have q0 := (hall j uv ht).1
      clear hall H4
      have hst := sumU_take k1 l 0 j _ ht
      have hmt := maxU_take k1 l 0 j _ HPO.out ht
      have hsm2 := HSM.out (j + 1)
      have hu4 : 0 ≤ uv := HPO.out uv (List.mem_of_getElem? ht)
      have hu3 : uv ≤ 1048577 := by
        have := sumU_take 0 l 0 j _ ht
        have h0 := sm_le 0 l 0 (j + 1) HPO.out
        have h1 := sm_le 0 l 0 j HPO.out
        have h2 : isBr 0 (0 + j) = false := by simp [isBr]
        rw [h2] at this
        simp only [Bool.false_eq_true, if_false] at this
        omega
      have HST := hid hst
      have HMT := hid hmt
      have HS2 := hid hsm2
      clear hst hmt ht hsm2
      by_cases j0 : 0 < j
      case neg =>
        have e0 : decide (0 < j) = false := decide_eq_false j0
        have e0i : decide ((0 : Int) < (j : Int)) = false := decide_eq_false (by omega)
        have HBR := hid (show isBr k1 j = false by simp [isBr, *])
        rw [Nat.zero_add, HBR.out] at HST HMT
        have hst2 := HST.out
        have hmt2 := HMT.out
        rw [if_neg (by simp)] at hst2 hmt2
        have HST2 := hid (show x + uv = sumU k1 0 (l.take (j + 1)) by have := HX.out; omega)
        have HMT2 := hid (show y = maxU k1 0 (l.take (j + 1)) by have := HY.out; omega)
        have hle : x + uv ≤ 1048577 := by have := HST2.out; have := HMT2.out; have := HS2.out; omega
        clear hst2 hmt2 HST HMT j0
        go_wp2_with fail
        go_roundw
        case rel => exact ⟨j + 1, _, _, by omega, by go_num, rfl, rfl, HST2, by first | exact HMT2 | (have := HMT2.out; exact hid (by split <;> omega)), by first | rfl | trivial⟩
        case measure => simp [intOf]; omega
      case pos =>
      have e0 : decide (0 < j) = true := decide_eq_true j0
      have e0i : decide ((0 : Int) < (j : Int)) = true := decide_eq_true (by omega)
      by_cases k9 : k1 = 9
      case pos =>
        have g9 : (k1 == 9) = true := by simp [k9]
        have HBR := hid (show isBr k1 j = true by simp [isBr, *])
        rw [Nat.zero_add, HBR.out] at HST HMT
        have hst2 := HST.out
        have hmt2 := HMT.out
        rw [if_pos rfl] at hst2 hmt2
        have HST2 := hid (show x = sumU k1 0 (l.take (j + 1)) by have := HX.out; omega)
        have HMT2 := hid (show max y uv = maxU k1 0 (l.take (j + 1)) by have := HY.out; omega)
        have hle : max y uv ≤ 1048577 := by have := HST2.out; have := HMT2.out; have := HS2.out; omega
        clear hst2 hmt2 HST HMT j0 k9
        go_wp2_with fail
        go_roundw
        case rel => exact ⟨j + 1, _, _, by omega, by go_num, rfl, rfl, HST2, by first | exact HMT2 | (have := HMT2.out; exact hid (by split <;> omega)), by first | rfl | trivial⟩
        case measure => simp [intOf]; omega
      case neg =>
      have g9 : (k1 == 9) = false := by simp [k9]
      by_cases k11 : k1 = 11
      case pos =>
        have g11 : (k1 == 11) = true := by simp [k11]
        have HBR := hid (show isBr k1 j = true by simp [isBr, *])
        rw [Nat.zero_add, HBR.out] at HST HMT
        have hst2 := HST.out
        have hmt2 := HMT.out
        rw [if_pos rfl] at hst2 hmt2
        have HST2 := hid (show x = sumU k1 0 (l.take (j + 1)) by have := HX.out; omega)
        have HMT2 := hid (show max y uv = maxU k1 0 (l.take (j + 1)) by have := HY.out; omega)
        have hle : max y uv ≤ 1048577 := by have := HST2.out; have := HMT2.out; have := HS2.out; omega
        clear hst2 hmt2 HST HMT j0 k9 k11
        go_wp2_with fail
        go_roundw
        case rel => exact ⟨j + 1, _, _, by omega, by go_num, rfl, rfl, HST2, by first | exact HMT2 | (have := HMT2.out; exact hid (by split <;> omega)), by first | rfl | trivial⟩
        case measure => simp [intOf]; omega
      case neg =>
        have g11 : (k1 == 11) = false := by simp [k11]
        have HBR := hid (show isBr k1 j = false by simp [isBr, *])
        rw [Nat.zero_add, HBR.out] at HST HMT
        have hst2 := HST.out
        have hmt2 := HMT.out
        rw [if_neg (by simp)] at hst2 hmt2
        have HST2 := hid (show x + uv = sumU k1 0 (l.take (j + 1)) by have := HX.out; omega)
        have HMT2 := hid (show y = maxU k1 0 (l.take (j + 1)) by have := HY.out; omega)
        have hle : x + uv ≤ 1048577 := by have := HST2.out; have := HMT2.out; have := HS2.out; omega
        clear hst2 hmt2 HST HMT j0 k9 k11
        go_wp2_with fail
        go_roundw
        case rel => exact ⟨j + 1, _, _, by omega, by go_num, rfl, rfl, HST2, by first | exact HMT2 | (have := HMT2.out; exact hid (by split <;> omega)), by first | rfl | trivial⟩
        case measure => simp [intOf]; omega
def UiW (s : ByteArray) (N : Nat) : Prop := ∀ (k1 : Int) (u1 : Int) (n1 : ByteArray) (tk1 : Int) (tn1 : ByteArray) (tks1 : List Ty) (ns1 : List ByteArray) (ks1 : List Tm) (atks1 : Option Addr) (ctks1 : Nat) (ans1 : Option Addr) (cns1 : Nat) (aks1 : Option Addr) (cks1 : Nat) (w : World), Tm.bulk (Tm.mk k1 u1 n1 (Ty.mk tk1 tn1 tks1) ns1 ks1) < N → Tm.bulk (Tm.mk k1 u1 n1 (Ty.mk tk1 tn1 tks1) ns1 ks1) ≤ 1048576 → RdS w (Tm.d (Tm.mk k1 u1 n1 (Ty.mk tk1 tn1 tks1) ns1 ks1)) [.int .i64 k1, .int .i64 u1, .string n1, .int .i64 tk1, .string tn1, .slice atks1 tks1.length ctks1, .slice ans1 ns1.length cns1, .slice aks1 ks1.length cks1] →
  Calls Try.prog 60 #[.agg #[.int .i64 k1, .int .i64 u1, .string n1, .int .i64 tk1, .string tn1, .slice atks1 tks1.length ctks1, .slice ans1 ns1.length cns1, .slice aks1 ks1.length cks1], .string s] w fun e w' => e = .returned (.int .i64 (Tm.uses s (Tm.mk k1 u1 n1 (Ty.mk tk1 tn1 tks1) ns1 ks1))) ∧ Below w.heap.size w w'
theorem infoIntU : (Try.prog.info? 3).map (fun i => (i.zero, i.size, i.bytes)) = some (some (.int .i64 0), 1, 8) := by kernel_rfl

set_option maxRecDepth 100000 in
set_option maxHeartbeats 4000000 in
theorem usesOf_step (s : ByteArray) (N : Nat) (ih : UiW s N) : UiW s (N + 1) := by
  intro k1 u1 n1 tk1 tn1 tks1 ns1 ks1 atks1 ctks1 ans1 cns1 aks1 cks1 w hN hM hr
  have HX0 := hid ((Boxes.nil w).alloc #[.int .i64 k1, .int .i64 u1, .string n1, .int .i64 tk1, .string tn1, .slice atks1 tks1.length ctks1, .slice ans1 ns1.length cns1, .slice aks1 ks1.length cks1] 36 (0, 0))
  have HB0 := hid ((Below.refl w.heap.size w).alloc (Nat.le_refl _) (.cells #[.int .i64 k1, .int .i64 u1, .string n1, .int .i64 tk1, .string tn1, .slice atks1 tks1.length ctks1, .slice ans1 ns1.length cns1, .slice aks1 ks1.length cks1] 36))
  obtain ⟨i0, hi, hz0, hz1, hz2⟩ := info_parts infoIntU
  have HI := hid hi
  clear hi
  by_cases h1 : k1 = 1
  case pos =>
    subst h1
    have HU := hid (Tm.uses_var s u1 n1 (Ty.mk tk1 tn1 tks1) ns1 ks1)
    clear ih hr hM hN hz0 hz1 hz2
    by_cases hq : n1 = s
    case pos =>
      have hb := bytes_eq hq
      have HQ := hid hq
      clear hq
      go_enter Try.func60, Try.ntmps60
      go_wp2_with fail
      refine (impl_truth _ _).mono ?_
      rintro e w2 ⟨rfl, rfl⟩
      go_wp2_with fail
      go_ret
      exact ⟨ret_int (by rw [HU.out, if_pos HQ.out]), HB0.out⟩
    case neg =>
      have hb := bytes_ne hq
      have HQ := hid hq
      clear hq
      go_enter Try.func60, Try.ntmps60
      go_wp2_with fail
      refine (impl_truth _ _).mono ?_
      rintro e w2 ⟨rfl, rfl⟩
      go_wp2_with fail
      go_ret
      exact ⟨ret_int (by rw [HU.out, if_neg HQ.out]), HB0.out⟩
  case neg =>
  have g1 : (k1 == 1) = false := by simp [h1]
  have HU := hid (Tm.uses_mk s h1 u1 n1 (Ty.mk tk1 tn1 tks1) ns1 ks1)
  have hbk : Tm.bulks ks1 ≤ Tm.bulk (Tm.mk k1 u1 n1 (Ty.mk tk1 tn1 tks1) ns1 ks1) := by simp only [Tm.bulk]; omega
  have hfk := hr.fTm.2.2.2.2.2
  have hfn := hr.fTm.2.2.2.2.1
  obtain ⟨_, _, e, h2, h3, h4⟩ := hfk.eTm
  simp only [Value.slice.injEq, true_and] at e
  obtain ⟨rfl, rfl⟩ := e
  have hbc := Tm.bulks_length ks1
  have hlk : ks1.length ≤ 1048576 := by omega
  have IH := hid ih
  have H4 := hid h4
  have HK := hid hbk
  have HM := hid hM
  have HN := hid hN
  have HFN := hid hfn
  have hul := Tm.ulist_le s k1 n1 ns1 0 ks1
  have hlc := Tm.cnts_le ks1
  have HGET := hid (Tm.ulist_get s k1 n1 ns1 ks1 0)
  have HLEN := hid (Tm.ulist_length s k1 n1 ns1 ks1 0)
  generalize hl : Tm.ulist s k1 n1 ns1 0 ks1 = l at HU HGET HLEN hul
  have HPO := hid hul.1
  have hls : l.sum ≤ 1048576 := by omega
  clear ih h4 hbk hfk hfn hr hM hN h1 hl hul hlc hbc
  go_enter Try.func60, Try.ntmps60
  go_wp2_with fail
  go_loopw [5, 6, 7, 8, 20] (fun v _ _ _ i wr => ∃ (j : Nat) (v0 : Value), j ≤ ks1.length ∧ i = .int .i64 j ∧ v0 = v ∧ GrowNow 3 w (w.alloc (.cells #[.int .i64 k1, .int .i64 u1, .string n1, .int .i64 tk1, .string tn1, .slice atks1 tks1.length ctks1, .slice ans1 ns1.length cns1, .slice aks1 ks1.length cks1] 36)) (l.take j) v0 wr) (fun _ _ _ _ i _ => ks1.length - (intOf i).toNat)
  case atStart => exact ⟨0, _, by omega, rfl, rfl, World.ownsRow_nil _ _ _ _, HB0.out, KeepT.refl _ _⟩
  case round =>
    obtain ⟨j, v0, hj, rfl, rfl, hgn⟩ := hrel
    have hb := hgn.2.1
    have HGN := hid hgn
    have hcb := hgn.2.2 w.heap.size #[.int .i64 k1, .int .i64 u1, .string n1, .int .i64 tk1, .string tn1, .slice atks1 tks1.length ctks1, .slice ans1 ns1.length cns1, .slice aks1 ks1.length cks1] 36 (0, 0) (heap_alloc_new w _) (by decide)
    have hcl := (Array.getElem?_eq_some_iff.1 hcb).1
    have HB := hid hb
    have HCB := hid hcb
    have hlj : (l.take j).length = j := by rw [List.length_take, HLEN.out]; omega
    have HLJ := hid hlj
    clear hgn hb hcb
    by_cases hlt : j < ks1.length
    case neg =>
      obtain rfl : j = ks1.length := by omega
      have hgr := HGN.out.1
      rw [← HLEN.out, List.take_length] at hgr
      have hrd := own_RdL hgr fun x hx => by
        have h0 := HPO.out x hx
        have h2 := le_sumU l HPO.out x hx
        omega
      have hv : ∃ a c, v0 = .slice a l.length c := by
        rcases hgr.2 with ⟨rfl, hn⟩ | ⟨g, cap, cur, rfl, _⟩
        · exact ⟨none, 0, by rw [hn]⟩
        · exact ⟨some ⟨g, 0, none⟩, cap, rfl⟩
      obtain ⟨a, c, rfl⟩ := hv
      have HCM := hid (impl_combined k1 l a c wr HPO.out (by omega) (by rw [HLEN.out]; omega) hrd)
      have y0 := heap_cell HCB.out (j := 0) rfl
      have HE := hid HU.out.symm
      clear hgr hrd
      go_wp2_with fail
      refine HCM.out.mono ?_
      rintro e w4 ⟨rfl, rfl⟩
      go_wp2_with fail
      go_ret
      exact ⟨ret_int HE.out, HB.out⟩
    case pos =>
      obtain ⟨b, o, rfl, hbl, hall⟩ := H4.out (by omega)
      obtain ⟨t, ht⟩ : ∃ t, ks1[j]? = some t := ⟨_, List.getElem?_eq_getElem hlt⟩
      obtain ⟨k3, u3, n3, ⟨tk3, tn3, tks3⟩, ns3, ks3⟩ := t
      obtain ⟨atks3, ctks3, ans3, cns3, aks3, cks3, q0, q1, q2, q3, q4, q5, q6, q7, hrk⟩ := hall j k3 u3 n3 tk3 tn3 tks3 ns3 ks3 ht
      clear hall H4
      have hbg := Tm.bulk_get ks1 j _ ht
      have hget := HGET.out j _ ht
      rw [Nat.zero_add] at hget
      have hu := Tm.uses_le s (Tm.mk k3 u3 n3 (Ty.mk tk3 tn3 tks3) ns3 ks3)
      have d0 := (HB.out.cell (p := ⟨b, o + j * 8, none⟩) hbl).trans q0
      have d1 := (HB.out.cell (p := ⟨b, o + j * 8 + 1, none⟩) hbl).trans q1
      have d2 := (HB.out.cell (p := ⟨b, o + j * 8 + 2, none⟩) hbl).trans q2
      have d3 := (HB.out.cell (p := ⟨b, o + j * 8 + 3, none⟩) hbl).trans q3
      have d4 := (HB.out.cell (p := ⟨b, o + j * 8 + 4, none⟩) hbl).trans q4
      have d5 := (HB.out.cell (p := ⟨b, o + j * 8 + 5, none⟩) hbl).trans q5
      have d6 := (HB.out.cell (p := ⟨b, o + j * 8 + 6, none⟩) hbl).trans q6
      have d7 := (HB.out.cell (p := ⟨b, o + j * 8 + 7, none⟩) hbl).trans q7
      have hbk1 : Below wr.heap.size wr (wr.alloc (.cells #[.int .i64 k3, .int .i64 u3, .string n3, .int .i64 tk3, .string tn3, .slice atks3 tks3.length ctks3, .slice ans3 ns3.length cns3, .slice aks3 ks3.length cks3] 36)) := (Below.refl _ _).alloc (Nat.le_refl _) _
      have HBK := hid hbk1
      have HKB := hid (show (wr.alloc (.cells #[.int .i64 k3, .int .i64 u3, .string n3, .int .i64 tk3, .string tn3, .slice atks3 tks3.length ctks3, .slice ans3 ns3.length cns3, .slice aks3 ks3.length cks3] 36)).heap[w.heap.size]? = some (.cells #[.int .i64 k1, .int .i64 u1, .string n1, .int .i64 tk1, .string tn1, .slice atks1 tks1.length ctks1, .slice ans1 ns1.length cns1, .slice (some ⟨b, o, none⟩) ks1.length cks1] 36) from (Below.heap_alloc wr (.cells #[.int .i64 k3, .int .i64 u3, .string n3, .int .i64 tk3, .string tn3, .slice atks3 tks3.length ctks3, .slice ans3 ns3.length cns3, .slice aks3 ks3.length cks3] 36) _ hcl).trans HCB.out)
      have HKK := hid (heap_alloc_new wr (.cells #[.int .i64 k3, .int .i64 u3, .string n3, .int .i64 tk3, .string tn3, .slice atks3 tks3.length ctks3, .slice ans3 ns3.length cns3, .slice aks3 ks3.length cks3] 36))
      have HBW := hid (HB.out.trans (hbk1.mono HB.out.size))
      have hbn := impl_bound k1 u1 n1 tk1 tn1 tks1 ns1 ks1 atks1 ctks1 ans1 cns1 (some ⟨b, o, none⟩) cks1 j (wr.alloc (.cells #[.int .i64 k3, .int .i64 u3, .string n3, .int .i64 tk3, .string tn3, .slice atks3 tks3.length ctks3, .slice ans3 ns3.length cns3, .slice aks3 ks3.length cks3] 36)) (HFN.out.below HBW.out)
      have hc := fun W (hW : Below w.heap.size w W) => IH.out k3 u3 n3 tk3 tn3 tks3 ns3 ks3 atks3 ctks3 ans3 cns3 aks3 cks3 W (by have := HK.out; have := HN.out; omega) (by have := HK.out; have := HM.out; omega) (hrk.below hW)
      generalize hbo : boundOf k1 n1 ns1 j = bs at hget hbn
      generalize huv : Tm.uses s (Tm.mk k3 u3 n3 (Ty.mk tk3 tn3 tks3) ns3 ks3) = uv at hget hc hu
      have HGT := hid (show l.take (j + 1) = l.take j ++ [useOf bs s uv] by rw [List.take_add_one, hget]; rfl)
      have HBN := hid hbn
      have HC := hid hc
      have e0 := heap_cell HKB.out (j := 0) rfl
      have e1 := heap_cell HKB.out (j := 1) rfl
      have e2 := heap_cell HKB.out (j := 2) rfl
      have e3 := heap_cell HKB.out (j := 3) rfl
      have e4 := heap_cell HKB.out (j := 4) rfl
      have e5 := heap_cell HKB.out (j := 5) rfl
      have e6 := heap_cell HKB.out (j := 6) rfl
      have e7 := heap_cell HKB.out (j := 7) rfl
      clear hbn hc ht hrk q0 q1 q2 q3 q4 q5 q6 q7 hget hbg hu huv hbo hbk1
      by_cases hh : hasStr bs s = true
      case pos =>
        have HUV := hid (show useOf bs s uv = 0 by rw [useOf, hh]; rfl)
        rw [HUV.out] at HGT
        have HH := hid hh
        clear hh
        go_wp2_with fail
        refine HBN.out.mono ?_
        rintro e w2 ⟨v2, rfl, hs, hb2⟩
        have HL2 := hid (has_L _ _ s w2 hs)
        obtain ⟨a2, c2, rfl, -⟩ := hs
        have hb2k : Below (wr.alloc (.cells #[.int .i64 k3, .int .i64 u3, .string n3, .int .i64 tk3, .string tn3, .slice atks3 tks3.length ctks3, .slice ans3 ns3.length cns3, .slice aks3 ks3.length cks3] 36)).heap.size (wr.alloc (.cells #[.int .i64 k3, .int .i64 u3, .string n3, .int .i64 tk3, .string tn3, .slice atks3 tks3.length ctks3, .slice ans3 ns3.length cns3, .slice aks3 ks3.length cks3] 36)) w2 := hb2
        have HB2K := hid (HBK.out.trans (hb2.mono HBK.out.size))
        have HB2 := hid (HBW.out.trans (hb2.mono HBW.out.size))
        clear hb2 HBN e0 d0 e1 d1 e2 d2 e3 d3 e4 d4 e5 d5 e6 d6 e7 d7
        go_wp2_with fail
        refine HL2.out.mono ?_
        rw [HH.out]
        rintro e w3 ⟨rfl, rfl⟩
        have HOW := hid (ownsRow.below HGN.out.1 HB2K.out)
        have hsz := HB2.out.size
        have hjl := HLJ.out
        go_wp2_with (at_builtin; refine wpList_append_own _ rfl _ _ 122 rfl w.heap.size 3 i0 (.int .i64 0) 1 8 Try.underlying122 HI.out hz0 hz1 hz2 rfl (by decide) _ _ _ rfl (HOW.out.alloc _) ⟨w2.heap.size, 0, none⟩ 1 1 [.int .i64 0] rfl rfl ?c1 ?c2 ?c3 ?c4 ?c5 ?_)
        case c1 => exact one_new w2 _ _
        case c2 => intro y hy; simp at hy; subst hy; rfl
        case c3 => unfold maxLen; omega
        case c4 => omega
        case c5 => simp; omega
        intro v' w6 hown6 hgrow6 hnil6
        have hown7 : w6.ownsRow w.heap.size 3 1 v' ((l.take j).length + 1) ((l.take j).map (Value.int .i64) ++ [.int .i64 0]) := by rw [HLJ.out, List.map_take]; exact hown6
        have HG1 := hid (grow_one (x := 0) (o := .cells #[.int .i64 0] 3) HB2.out HOW.out hown7 hgrow6)
        have HGG := hid (show GrowNow 3 w (w.alloc (.cells #[.int .i64 k1, .int .i64 u1, .string n1, .int .i64 tk1, .string tn1, .slice atks1 tks1.length ctks1, .slice ans1 ns1.length cns1, .slice (some ⟨b, o, none⟩) ks1.length cks1] 36)) (l.take (j + 1)) v' w6 by
          obtain ⟨v'', e, hg⟩ := HG1.out
          obtain rfl := (Ending.returned.injEq _ _).mp e
          rw [HGT.out]
          exact (HGN.out.below HB2K.out).step hg)
        clear hown6 hown7 hgrow6 hnil6 HG1 hjl hsz
        go_wp2_with fail
        go_roundw
        case rel => exact ⟨j + 1, _, by omega, by go_num, rfl, HGG.out⟩
        case measure => simp [intOf]; omega
      case neg =>
        have HUV := hid (show useOf bs s uv = uv by rw [useOf, (Bool.not_eq_true _).mp hh]; rfl)
        rw [HUV.out] at HGT
        have HH := hid ((Bool.not_eq_true _).mp hh)
        clear hh
        go_wp2_with fail
        refine HBN.out.mono ?_
        rintro e w2 ⟨v2, rfl, hs, hb2⟩
        have HL2 := hid (has_L _ _ s w2 hs)
        obtain ⟨a2, c2, rfl, -⟩ := hs
        have hb2k : Below (wr.alloc (.cells #[.int .i64 k3, .int .i64 u3, .string n3, .int .i64 tk3, .string tn3, .slice atks3 tks3.length ctks3, .slice ans3 ns3.length cns3, .slice aks3 ks3.length cks3] 36)).heap.size (wr.alloc (.cells #[.int .i64 k3, .int .i64 u3, .string n3, .int .i64 tk3, .string tn3, .slice atks3 tks3.length ctks3, .slice ans3 ns3.length cns3, .slice aks3 ks3.length cks3] 36)) w2 := hb2
        have HB2K := hid (HBK.out.trans (hb2.mono HBK.out.size))
        have HB2 := hid (HBW.out.trans (hb2.mono HBW.out.size))
        clear hb2 HBN e0 d0 e1 d1 e2 d2 e3 d3 e4 d4 e5 d5 e6 d6 e7 d7
        go_wp2_with fail
        refine HL2.out.mono ?_
        rw [HH.out]
        rintro e w3 ⟨rfl, rfl⟩
        have HK2 := hid ((hb2k.block _ (Array.getElem?_eq_some_iff.1 HKK.out).1).trans HKK.out)
        have f0 := heap_cell HK2.out (j := 0) rfl
        have f1 := heap_cell HK2.out (j := 1) rfl
        have f2 := heap_cell HK2.out (j := 2) rfl
        have f3 := heap_cell HK2.out (j := 3) rfl
        have f4 := heap_cell HK2.out (j := 4) rfl
        have f5 := heap_cell HK2.out (j := 5) rfl
        have f6 := heap_cell HK2.out (j := 6) rfl
        have f7 := heap_cell HK2.out (j := 7) rfl
        go_wp2_with fail
        refine (HC.out _ HB2.out).mono ?_
        rintro e w4 ⟨rfl, hb3⟩
        have HB3 := hid (HB2.out.trans (hb3.mono HB2.out.size))
        have HBB := hid (HB2K.out.trans (hb3.mono HB2K.out.size))
        clear hb3 f0 f1 f2 f3 f4 f5 f6 f7
        have HOW := hid (ownsRow.below HGN.out.1 HBB.out)
        have hsz := HB3.out.size
        have hjl := HLJ.out
        go_wp2_with (at_builtin; refine wpList_append_own _ rfl _ _ 122 rfl w.heap.size 3 i0 (.int .i64 0) 1 8 Try.underlying122 HI.out hz0 hz1 hz2 rfl (by decide) _ _ _ rfl (HOW.out.alloc _) ⟨w4.heap.size, 0, none⟩ 1 1 [.int .i64 uv] rfl rfl ?c1 ?c2 ?c3 ?c4 ?c5 ?_)
        case c1 => exact one_new w4 _ _
        case c2 => intro y hy; simp at hy; subst hy; rfl
        case c3 => unfold maxLen; omega
        case c4 => omega
        case c5 => simp; omega
        intro v' w6 hown6 hgrow6 hnil6
        have hown7 : w6.ownsRow w.heap.size 3 1 v' ((l.take j).length + 1) ((l.take j).map (Value.int .i64) ++ [.int .i64 uv]) := by rw [HLJ.out, List.map_take]; exact hown6
        have HG1 := hid (grow_one (x := uv) (o := .cells #[.int .i64 uv] 3) HB3.out HOW.out hown7 hgrow6)
        have HGG := hid (show GrowNow 3 w (w.alloc (.cells #[.int .i64 k1, .int .i64 u1, .string n1, .int .i64 tk1, .string tn1, .slice atks1 tks1.length ctks1, .slice ans1 ns1.length cns1, .slice (some ⟨b, o, none⟩) ks1.length cks1] 36)) (l.take (j + 1)) v' w6 by
          obtain ⟨v'', e, hg⟩ := HG1.out
          obtain rfl := (Ending.returned.injEq _ _).mp e
          rw [HGT.out]
          exact (HGN.out.below HBB.out).step hg)
        clear hown6 hown7 hgrow6 hnil6 HG1 hjl hsz
        go_wp2_with fail
        go_roundw
        case rel => exact ⟨j + 1, _, by omega, by go_num, rfl, HGG.out⟩
        case measure => simp [intOf]; omega
theorem usesOf_all (s : ByteArray) : ∀ N, UiW s N
  | 0 => fun _ _ _ _ _ _ _ _ _ _ _ _ _ _ _  h => absurd h (by omega)
  | N + 1 => usesOf_step s N (usesOf_all s N)
theorem impl_UsesOf (k1 : Int) (u1 : Int) (n1 : ByteArray) (tk1 : Int) (tn1 : ByteArray) (tks1 : List Ty) (ns1 : List ByteArray) (ks1 : List Tm) (atks1 : Option Addr) (ctks1 : Nat) (ans1 : Option Addr) (cns1 : Nat) (aks1 : Option Addr) (cks1 : Nat) (s : ByteArray) (w : World) (hM : Tm.bulk (Tm.mk k1 u1 n1 (Ty.mk tk1 tn1 tks1) ns1 ks1) ≤ 1048576) (hr : RdS w (Tm.d (Tm.mk k1 u1 n1 (Ty.mk tk1 tn1 tks1) ns1 ks1)) [.int .i64 k1, .int .i64 u1, .string n1, .int .i64 tk1, .string tn1, .slice atks1 tks1.length ctks1, .slice ans1 ns1.length cns1, .slice aks1 ks1.length cks1]) :
    Calls Try.prog 23 #[.agg #[.int .i64 k1, .int .i64 u1, .string n1, .int .i64 tk1, .string tn1, .slice atks1 tks1.length ctks1, .slice ans1 ns1.length cns1, .slice aks1 ks1.length cks1], .string s] w fun e w' => e = .returned (.int .i64 (usesN (Tm.mk k1 u1 n1 (Ty.mk tk1 tn1 tks1) ns1 ks1) s)) ∧ Below w.heap.size w w' := by
  have hB := (Below.refl w.heap.size w).alloc (Nat.le_refl _) (.cells #[.int .i64 k1, .int .i64 u1, .string n1, .int .i64 tk1, .string tn1, .slice atks1 tks1.length ctks1, .slice ans1 ns1.length cns1, .slice aks1 ks1.length cks1] 36)
  have hc := impl_ValidTerm k1 u1 n1 tk1 tn1 tks1 ns1 ks1 atks1 ctks1 ans1 cns1 aks1 cks1 (w.alloc (.cells #[.int .i64 k1, .int .i64 u1, .string n1, .int .i64 tk1, .string tn1, .slice atks1 tks1.length ctks1, .slice ans1 ns1.length cns1, .slice aks1 ks1.length cks1] 36)) hM (hr.below hB)
  have hs := fun W (hW : Below w.heap.size w W) => usesOf_all s (Tm.bulk (Tm.mk k1 u1 n1 (Ty.mk tk1 tn1 tks1) ns1 ks1) + 1) k1 u1 n1 tk1 tn1 tks1 ns1 ks1 atks1 ctks1 ans1 cns1 aks1 cks1 W (by omega) hM (hr.below hW)
  have HX0 := hid ((Boxes.nil w).alloc #[.int .i64 k1, .int .i64 u1, .string n1, .int .i64 tk1, .string tn1, .slice atks1 tks1.length ctks1, .slice ans1 ns1.length cns1, .slice aks1 ks1.length cks1] 36 (0, 0))
  have HB0 := hid hB
  by_cases hok : Tm.ok (Tm.mk k1 u1 n1 (Ty.mk tk1 tn1 tks1) ns1 ks1) = true
  case neg =>
    replace hok := (Bool.not_eq_true _).mp hok
    have HF := hid (usesN_no s hok)
    rw [hok] at hc
    have HC := hid hc
    clear hc hok hM hr hB hs
    go_enter Try.func23, Try.ntmps23
    go_wp2_with fail
    refine HC.out.mono ?_
    rintro e w1 ⟨rfl, hb⟩
    have HB1 := hid (HB0.out.trans (hb.mono HB0.out.size))
    clear hb
    go_wp2_with fail
    go_ret
    exact ⟨ret_int HF.out.symm, HB1.out⟩
  case pos =>
    have HF := hid (usesN_yes s hok)
    rw [hok] at hc
    have HC := hid hc
    have HS := hid hs
    clear hc hok hM hr hB hs
    go_enter Try.func23, Try.ntmps23
    go_wp2_with fail
    refine HC.out.mono ?_
    rintro e w1 ⟨rfl, hb⟩
    have HB1 := hid (HB0.out.trans (hb.mono HB0.out.size))
    have HX1 := hid (HX0.out.below hb)
    clear hb
    have y0 := HX1.out.at 0 0 rfl rfl
    have y1 := HX1.out.at 0 1 rfl rfl
    have y2 := HX1.out.at 0 2 rfl rfl
    have y3 := HX1.out.at 0 3 rfl rfl
    have y4 := HX1.out.at 0 4 rfl rfl
    have y5 := HX1.out.at 0 5 rfl rfl
    have y6 := HX1.out.at 0 6 rfl rfl
    have y7 := HX1.out.at 0 7 rfl rfl
    go_wp2_with fail
    refine (HS.out _ HB1.out).mono ?_
    rintro e w2 ⟨rfl, hb⟩
    have HB2 := hid (HB1.out.trans (hb.mono HB1.out.size))
    clear hb y0 y1 y2 y3 y4 y5 y6 y7
    go_wp2_with fail
    go_ret
    exact ⟨ret_int HF.out.symm, HB2.out⟩
end Go.Proofs.Ytdcifcfkjhpokaa
