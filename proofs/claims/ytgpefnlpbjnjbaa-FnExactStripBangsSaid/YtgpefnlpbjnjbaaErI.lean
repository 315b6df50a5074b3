/- Walks: the types without bangs in the program. -/
import Derived.Test.YtgpefnlpbjnjbaaRowTy
import Derived.Test.YtgpefnlpbjnjbaaErP
import Derived.Deep.LoopGhost
namespace Go.Proofs.Ytgpefnlpbjnjbaa
open Go.ChangeShapes Go.WideShapes Go.ChangeAt Go.RowKit
open Go.Sort (grow)
set_option linter.unusedVariables false

def EriW (N : Nat) : Prop := ∀ (k0 : Int) (n0 : ByteArray) (ks0 : List Ty) (aks0 : Option Addr) (cks0 : Nat) (w : World), Ty.bulk (Ty.mk k0 n0 ks0) < N → Ty.bulk (Ty.mk k0 n0 ks0) ≤ 1048576 → Ty.good (Ty.mk k0 n0 ks0) = true → RdS w (Ty.d (Ty.mk k0 n0 ks0)) [.int .i64 k0, .string n0, .slice aks0 ks0.length cks0] →
  Calls Try.prog 52 #[.agg #[.int .i64 k0, .string n0, .slice aks0 ks0.length cks0]] w (GivesT (Ty.erase (Ty.mk k0 n0 ks0)) w)
set_option maxRecDepth 100000 in
set_option maxHeartbeats 4000000 in
theorem eraseType_step (N : Nat) (ih : EriW N) : EriW (N + 1) := by
  obtain ⟨i0, hi, hz0, hz1, hz2⟩ := info_parts infoTy
  intro k0 n0 ks0 aks0 cks0 w hN hM hg hr
  have IH := hid ih
  have HN0 := hid hN
  have HM0 := hid hM
  have HI := hid hi
  have HG0 := hid hg
  have HR0 := hid hr
  obtain ⟨T0, hT0⟩ : ∃ T0, Ty.erase (Ty.mk k0 n0 ks0) = T0 := ⟨_, rfl⟩
  rw [hT0]
  have PL0 := hid hT0
  clear hT0
  clear ih hN hM hi hg hr
  have hA0 := alloc2 w (.cells #[.int .i64 k0, .string n0, .slice aks0 ks0.length cks0] 28) (.cells #[.int .i64 0, .string ⟨#[]⟩, .slice none 0 0] 28)
  have HS0 := hid hA0.1
  have HS1 := hid hA0.2.1
  have HS2 := hid hA0.2.2.1
  have HS3 := hid hA0.2.2.2
  clear hA0
  go_enter Try.func52, Try.ntmps52
  go_wp2_with fail
  go_loopg [] (Ty.bulk (Ty.mk k0 n0 ks0)) (fun gq wr => ∃ (k : Int) (n : ByteArray) (ks : List Ty) (a : Option Addr) (c : Nat), Hid (wr.heap[w.heap.size]? = some (.cells #[.int .i64 k, .string n, .slice a ks.length c] 28)) ∧ Hid (wr.heap[w.heap.size + 1]? = some (.cells #[.int .i64 0, .string ⟨#[]⟩, .slice none 0 0] 28)) ∧ Hid (wr.heap.size = w.heap.size + 2) ∧ Hid (Below w.heap.size w wr) ∧ Hid (Ty.bulk (Ty.mk k n ks) = gq) ∧ Hid (Ty.bulk (Ty.mk k n ks) ≤ Ty.bulk (Ty.mk k0 n0 ks0)) ∧ Hid (Ty.good (Ty.mk k n ks) = true) ∧ Hid (Ty.erase (Ty.mk k n ks) = T0) ∧ Hid (RdS w (Ty.d (Ty.mk k n ks)) [.int .i64 k, .string n, .slice a ks.length c]))
  case atStart => exact ⟨k0, n0, ks0, aks0, cks0, HS0, HS1, HS2, HS3, hid rfl, hid (Nat.le_refl _), HG0, PL0, HR0⟩
  case round =>
    obtain ⟨k1, n1, ks1, aks1, cks1, HX0, HX1, HSZ0, HB, HGQ, HLE, HG, HPL, HRS⟩ := hrel
    by_cases h4k : k1 = 4
    case pos =>
      subst h4k
      obtain ⟨x, hx, hgx⟩ := Ty.good_bang HG.out
      obtain ⟨k3, n3, ks3⟩ := x
      subst hx
      obtain ⟨_, zn1, hks⟩ := HRS.out.fTy
      obtain ⟨_, _, e, h2, h3, h4⟩ := hks.eTy
      simp only [Value.slice.injEq, true_and] at e
      obtain ⟨rfl, rfl⟩ := e
      obtain ⟨b, o, rfl, hbl, hall⟩ := h4 (by simp)
      obtain ⟨aks3, cks3, q0, q1, q2, hrk⟩ := hall 0 k3 n3 ks3 rfl
      have d0 := (HB.out.cell (p := ⟨b, o + 0 * 3, none⟩) hbl).trans q0
      have d1 := (HB.out.cell (p := ⟨b, o + 0 * 3 + 1, none⟩) hbl).trans q1
      have d2 := (HB.out.cell (p := ⟨b, o + 0 * 3 + 2, none⟩) hbl).trans q2
      simp only [Nat.zero_mul, Nat.add_zero] at d0 d1 d2
      have HBS := hid (show Ty.bulk (Ty.mk 4 n1 [Ty.mk k3 n3 ks3]) = n1.size + (1 + Ty.bulk (Ty.mk k3 n3 ks3)) by simp [Ty.bulk, Ty.bulks])
      have HRK := hid hrk
      have HGX := hid hgx
      have e0 : wr.cell? ⟨w.heap.size, 0, none⟩ = some (.int .i64 4) := heap_cell HX0.out (j := 0) rfl
      have e1 : wr.cell? ⟨w.heap.size, 1, none⟩ = some (.string n1) := heap_cell HX0.out (j := 1) rfl
      have e2 : wr.cell? ⟨w.heap.size, 2, none⟩ = some (.slice (some ⟨b, o, none⟩) 1 cks1) := heap_cell HX0.out (j := 2) rfl
      have z0 := heap_free HX0.out 0
      have z1 := heap_free HX0.out 1
      have z2 := heap_free HX0.out 2
      clear hks h2 h3 h4 hall q0 q1 q2 hrk hgx zn1
      have hpl := HPL.out
      rw [Ty.erase_bang] at hpl
      have HPL2 := hid hpl
      clear hpl
      go_wp2_with fail
      go_roundg (Ty.bulk (Ty.mk k3 n3 ks3))
      case rel => exact ⟨k3, n3, ks3, aks3, cks3, hid (set3 HX0.out _ _ _), hid ((set3_ne _ _ _ (by omega)).trans HX1.out), hid (by have := HSZ0.out; simpa [World.setCell] using this), hid (((HB.out.setCell (by simp) _).setCell (by simp) _).setCell (by simp) _), hid rfl, hid (by have := HBS.out; have := HLE.out; omega), HGX, HPL2, HRK⟩
      case measure => have := HBS.out; have := HGQ.out; omega
    case neg =>
      have g4 : (k1 == 4) = false := by simp [h4k]
      have e0 := heap_cell HX0.out (j := 0) rfl
      have e1 := heap_cell HX0.out (j := 1) rfl
      have e2 := heap_cell HX0.out (j := 2) rfl
      obtain ⟨wo, hwo⟩ : ∃ wo, wo = wr := ⟨_, rfl⟩
      subst hwo
      obtain ⟨⟨lok, hik⟩, zn, hks⟩ := HRS.out.fTy
      obtain ⟨_, _, e, h2, h3, h4⟩ := hks.eTy
      simp only [Value.slice.injEq, true_and] at e
      obtain ⟨rfl, rfl⟩ := e
      have hl := Ty.bulks_length ks1
      have hbk : Ty.bulk (Ty.mk k1 n1 ks1) = n1.size + Ty.bulks ks1 := rfl
      have hlk : ks1.length ≤ 1048576 := by have := HLE.out; have := HM0.out; omega
      have H4 := hid h4
      have HBK := hid hbk
      have HN := hid (show Ty.bulk (Ty.mk k1 n1 ks1) < N + 1 by have := HLE.out; have := HN0.out; omega)
      have HM := hid (show Ty.bulk (Ty.mk k1 n1 ks1) ≤ 1048576 by have := HLE.out; have := HM0.out; omega)
      have HSC := hid (show (-9223372036854775808 ≤ k1 ∧ k1 ≤ 9223372036854775807) ∧ n1.size ≤ 9223372036854775807 from ⟨⟨lok, hik⟩, zn⟩)
      have HRES := hid (HPL.out.symm.trans (Ty.erase_mk h4k n1 ks1))
      have HGK := hid (Ty.good_kids HG.out)
      have hsz := HSZ0.out
      have hal : Below wo.heap.size wo (wo.alloc (.cells #[.int .i64 k1, .string n1, .slice none 0 0] 28)) := (Below.refl _ _).alloc (Nat.le_refl _) _
      have HS0 := hid ((hal.block _ (Array.getElem?_eq_some_iff.1 HX0.out).1).trans HX0.out)
      have HS1 := hid ((hal.block _ (Array.getElem?_eq_some_iff.1 HX1.out).1).trans HX1.out)
      have HS2 := hid (show (wo.alloc (.cells #[.int .i64 k1, .string n1, .slice none 0 0] 28)).heap[w.heap.size + 2]? = some (.cells #[.int .i64 k1, .string n1, .slice none 0 0] 28) by have h := heap_alloc_new wo (.cells #[.int .i64 k1, .string n1, .slice none 0 0] 28); rw [hsz] at h; exact h)
      have HSB := hid (HB.out.trans (hal.mono HB.out.size))
      have HSZ := hid (show w.heap.size + 3 ≤ (wo.alloc (.cells #[.int .i64 k1, .string n1, .slice none 0 0] 28)).heap.size by simp; omega)
      clear h4 hbk hks h4k hal HX0 HX1 HB
      go_wp2_with fail
      clear e0 e1 e2
      go_loopw [5, 21] (fun _ i wr => ∃ (j : Nat) (v0 : Value), j ≤ ks1.length ∧ i = .int .i64 j ∧ Hid (wr.heap[w.heap.size]? = some (.cells #[.int .i64 k1, .string n1, .slice aks1 ks1.length cks1] 28)) ∧ Hid (wr.heap[w.heap.size + 1]? = some (.cells #[.int .i64 0, .string ⟨#[]⟩, .slice none 0 0] 28)) ∧ Hid (wr.heap[w.heap.size + 2]? = some (.cells #[.int .i64 k1, .string n1, v0] 28)) ∧ Hid (Below w.heap.size w wr) ∧ Hid (w.heap.size + 3 ≤ wr.heap.size) ∧ Hid (RowNow 28 3 (w.heap.size + 3) (Ty.ds (Ty.erases (ks1.take j))) v0 wr)) (fun _ i _ => ks1.length - (intOf i).toNat)
      case atStart => exact ⟨0, .slice none 0 0, by omega, rfl, HS0, HS1, HS2, HSB, HSZ, RowNow.nil _ _ _ _⟩
      case round =>
        obtain ⟨j, v0, hj, rfl, HX0, HX1, HX2, HB, HZ, HROW⟩ := hrel
        by_cases hlt : j < ks1.length
        case neg =>
          obtain rfl : j = ks1.length := by omega
          rw [List.take_length] at HROW
          obtain ⟨a2, c2, hv⟩ := HROW.out.slice
          rw [Ty.ds_length, Ty.erases_length] at hv
          subst hv
          have e0 := heap_cell HX0.out (j := 2) rfl
          have f0 := heap_cell HX2.out (j := 0) rfl
          have f1 := heap_cell HX2.out (j := 1) rfl
          have f2 := heap_cell HX2.out (j := 2) rfl
          have r0 := heap_cell HX1.out (j := 0) rfl
          have r1 := heap_cell HX1.out (j := 1) rfl
          have r2 := heap_cell HX1.out (j := 2) rfl
          have z0 := heap_free HX1.out 0
          have z1 := heap_free HX1.out 1
          have z2 := heap_free HX1.out 2
          go_wp2_with fail
          have hS := set3 HX1.out (.int .i64 k1) (.string n1) (.slice a2 ks1.length c2)
          have hc0 := heap_cell hS (j := 0) rfl
          have hc1 := heap_cell hS (j := 1) rfl
          have hc2 := heap_cell hS (j := 2) rfl
          refine bodyPost_ret (v := .agg #[.int .i64 k1, .string n1, .slice a2 ks1.length c2]) (by simp [results, Try.results52, go_sem, hc0, hc1, hc2]) rfl ?_
          have hO := HROW.out.own
          exact GivesT.of_len (B := w.heap.size + 3) HRES.out (Ty.erases_length _) HSC.out.1.1 HSC.out.1.2 HSC.out.2 (by omega) (OwnS.keep hO fun x hx _ => set3_ne _ _ _ (by omega)) (((HB.out.setCell (by simp) _).setCell (by simp) _).setCell (by simp) _)
        case pos =>
          obtain ⟨b, o, rfl, hbl, hall⟩ := H4.out (by omega)
          obtain ⟨t, ht⟩ : ∃ t, ks1[j]? = some t := ⟨_, List.getElem?_eq_getElem hlt⟩
          obtain ⟨k3, n3, ks3⟩ := t
          obtain ⟨aks3, cks3, q0, q1, q2, hrk⟩ := hall j k3 n3 ks3 ht
          clear hall H4
          have d0 := (HB.out.cell (p := ⟨b, o + j * 3, none⟩) hbl).trans q0
          have d1 := (HB.out.cell (p := ⟨b, o + j * 3 + 1, none⟩) hbl).trans q1
          have d2 := (HB.out.cell (p := ⟨b, o + j * 3 + 2, none⟩) hbl).trans q2
          have hbg := Ty.bulk_get ks1 j _ ht
          have hbk1 : Below wr.heap.size wr (wr.alloc (.cells #[.int .i64 k3, .string n3, .slice aks3 ks3.length cks3] 28)) := (Below.refl _ _).alloc (Nat.le_refl _) _
          have HXK0 := hid ((hbk1.block _ (Array.getElem?_eq_some_iff.1 HX0.out).1).trans HX0.out)
          have HXK1 := hid ((hbk1.block _ (Array.getElem?_eq_some_iff.1 HX1.out).1).trans HX1.out)
          have HXK2 := hid ((hbk1.block _ (Array.getElem?_eq_some_iff.1 HX2.out).1).trans HX2.out)
          have HBK1 := hid (HB.out.trans (hbk1.mono HB.out.size))
          have HZK := hid (Nat.le_trans HZ.out hbk1.size)
          have HROWK := hid (HROW.out.below hbk1)
          clear hbk1
          have hc := IH.out k3 n3 ks3 aks3 cks3 ((wr.alloc (.cells #[.int .i64 k3, .string n3, .slice aks3 ks3.length cks3] 28))).drew (by have := HN.out; have := HBK.out; omega) (by have := HM.out; have := HBK.out; omega) (Ty.goods_get ks1 j _ HGK.out ht) (hrk.below HBK1.out.drew)
          have hsn := Ty.erases_snoc ks1 j _ ht
          have HSN := hid hsn
          obtain ⟨k5, n5, ks5, h5⟩ := Ty.eta (Ty.erase (Ty.mk k3 n3 ks3))
          rw [h5] at hc
          have H5 := hid h5
          have HC := hid hc
          have e0 := heap_cell HX0.out (j := 2) rfl
          obtain ⟨xs, F, ho, hra, hw, hn⟩ := HROWK.out
          have hlen : (Ty.ds (Ty.erases (ks1.take j))).length = j := by rw [Ty.ds_length, Ty.erases_length, List.length_take]; omega
          rw [hlen] at ho
          have HO := hid ho
          have HRA := hid hra
          have HW := hid hw
          have HNO := hid hn
          have HLEN := hid hlen
          clear ht hrk q0 q1 q2 hbg hc hsn ho hra hw hn hlen h5
          have f2 := heap_cell HXK2.out (j := 2) rfl
          have g0 := heap_cell (heap_alloc_new wr (.cells #[.int .i64 k3, .string n3, .slice aks3 ks3.length cks3] 28)) (j := 0) rfl
          have g1 := heap_cell (heap_alloc_new wr (.cells #[.int .i64 k3, .string n3, .slice aks3 ks3.length cks3] 28)) (j := 1) rfl
          have g2 := heap_cell (heap_alloc_new wr (.cells #[.int .i64 k3, .string n3, .slice aks3 ks3.length cks3] 28)) (j := 2) rfl
          go_wp2_with fail
          go_region_law (first
            | (go_simp; go_at_call 52; (with_reducible refine HC.out.mono ?_); rintro e W2 ⟨a5, c5, rfl, ho5, hb5⟩; have HO5 := hid ho5; have HB5 := hid hb5; have hal := (Below.refl W2.heap.size W2).alloc (Nat.le_refl _) (.cells #[.int .i64 k5, .string n5, .slice a5 ks5.length c5] 28); have HAL := hid hal; have hx2 := (hb5.block (w.heap.size + 2) (Array.getElem?_eq_some_iff.1 HXK2.out).1).trans HXK2.out; have hx2a := (hal.block _ (Array.getElem?_eq_some_iff.1 hx2).1).trans hx2; have HX2A := hid hx2a; have x2 := heap_cell hx2 (j := 2) rfl; have x2a := heap_cell hx2a (j := 2) rfl; have HOA := hid (ownsRow.below (ownsRow.below (w := ((wr.alloc (.cells #[.int .i64 k3, .string n3, .slice aks3 ks3.length cks3] 28))).drew) HO.out hb5) hal); have HZA := hid (Nat.le_trans HZK.out (Nat.le_trans hb5.size hal.size)); clear ho5 hb5 hal hx2 hx2a)
            | (refine step_append_lies _ (by rfl) _ _ _ (by rfl) (w.heap.size + 3) 28 i0 _ 3 48 Try.underlying26 HI.out hz0 hz1 hz2 rfl (by omega) v0 j xs (by rfl) HOA.out ⟨W2.heap.size, 0, none⟩ 1 1 [.int .i64 k5, .string n5, .slice a5 ks5.length c5] (by rfl) (by rfl) (World.news_of_block (cs := #[.int .i64 k5, .string n5, .slice a5 ks5.length c5]) (t := 28) (fr := (0, 0)) (heap_alloc_new W2 _)) (by simp [Value.oneCell']) (by omega) (by simp only [maxLen]; omega) (by omega) (by have := HZA.out; omega) (W2.heap.size + 1) (by simp) ?_; intro g cap W3 ho3 hg3 hat3 hlt3; have HO3 := hid ho3; have HG3 := hid hg3; have HAT3 := hid hat3; have hx3 := (hg3.block (w.heap.size + 2) (Array.getElem?_eq_some_iff.1 HX2A.out).1 (fun e => by have := (HOA.out.lt _ e.symm).1; omega)).trans HX2A.out; have HX3 := hid hx3; have y2 := heap_cell hx3 (j := 2) rfl; have z2 := heap_free hx3 2; clear ho3 hg3 hat3 hlt3 hx3))
          all_goals
            have HRR := hid (row_round (te := 28) (q := 2) (u := .slice (some ⟨g, 0, none⟩) (j + 1) cap) HBK1.out HZK.out HLEN.out HO.out HRA.out HW.out HNO.out ((Below.refl ((wr.alloc (.cells #[.int .i64 k3, .string n3, .slice aks3 ks3.length cks3] 28))).heap.size ((wr.alloc (.cells #[.int .i64 k3, .string n3, .slice aks3 ks3.length cks3] 28)))).drew.trans HB5.out) HO5.out HG3.out HO3.out HAT3.out)
            have HX2N := hid (heap_setCell_at W3 (w.heap.size + 2) 2 (.slice (some ⟨g, 0, none⟩) (j + 1) cap) HX3.out)
            clear HC IH e0 d0 d1 d2 y2 z2 x2 x2a f2 g0 g1 g2
            go_wp2_with fail
            go_roundw
            case rel => exact ⟨j + 1, _, by omega, by go_num, (HRR.out.1 _ (by omega)).trans HXK0.out, (HRR.out.1 _ (by omega)).trans HXK1.out, HX2N.out, HRR.out.2.1, HRR.out.2.2.1, by rw [HSN.out, H5.out]; exact HRR.out.2.2.2⟩
            case measure => simp [intOf]; omega
theorem eraseType_all : ∀ N, EriW N
  | 0 => fun _ _ _ _ _ _ h => absurd h (by omega)
  | N + 1 => eraseType_step N (eraseType_all N)
theorem impl_eraseType (k0 : Int) (n0 : ByteArray) (ks0 : List Ty) (aks0 : Option Addr) (cks0 : Nat) (w : World) (hM : Ty.bulk (Ty.mk k0 n0 ks0) ≤ 1048576) (hg : Ty.good (Ty.mk k0 n0 ks0) = true) (hr : RdS w (Ty.d (Ty.mk k0 n0 ks0)) [.int .i64 k0, .string n0, .slice aks0 ks0.length cks0]) :
    Calls Try.prog 52 #[.agg #[.int .i64 k0, .string n0, .slice aks0 ks0.length cks0]] w (GivesT (Ty.erase (Ty.mk k0 n0 ks0)) w) := eraseType_all (Ty.bulk (Ty.mk k0 n0 ks0) + 1) k0 n0 ks0 aks0 cks0 w (by omega) hM hg hr
end Go.Proofs.Ytgpefnlpbjnjbaa
