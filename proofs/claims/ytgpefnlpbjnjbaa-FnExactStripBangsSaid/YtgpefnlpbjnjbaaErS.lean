/- Walks: EraseType in the reference. -/
import Derived.Test.YtgpefnlpbjnjbaaRowTy
import Derived.Test.YtgpefnlpbjnjbaaErP
namespace Go.Proofs.Ytgpefnlpbjnjbaa
open Go.ChangeShapes Go.WideShapes Go.ChangeAt Go.RowKit
open Go.Sort (grow)
set_option linter.unusedVariables false

def ErW (N : Nat) : Prop := ∀ (k1 : Int) (n1 : ByteArray) (ks1 : List Ty) (aks1 : Option Addr) (cks1 : Nat) (w : World), Ty.bulk (Ty.mk k1 n1 ks1) < N → Ty.bulk (Ty.mk k1 n1 ks1) ≤ 1048576 → Ty.good (Ty.mk k1 n1 ks1) = true → RdS w (Ty.d (Ty.mk k1 n1 ks1)) [.int .i64 k1, .string n1, .slice aks1 ks1.length cks1] →
  Calls Try.prog 49 #[.agg #[.int .i64 k1, .string n1, .slice aks1 ks1.length cks1]] w (GivesT (Ty.erase (Ty.mk k1 n1 ks1)) w)
set_option maxRecDepth 100000 in
set_option maxHeartbeats 4000000 in
theorem l02Erase_step (N : Nat) (ih : ErW N) : ErW (N + 1) := by
  obtain ⟨i0, hi, hz0, hz1, hz2⟩ := info_parts infoTy
  intro k1 n1 ks1 aks1 cks1 w hN hM hg hr
  have hbk : Ty.bulk (Ty.mk k1 n1 ks1) = n1.size + Ty.bulks ks1 := rfl
  obtain ⟨⟨lok, hik⟩, zn, hks⟩ := hr.fTy
  obtain ⟨_, _, e, h2, h3, h4⟩ := hks.eTy
  simp only [Value.slice.injEq, true_and] at e
  obtain ⟨rfl, rfl⟩ := e
  have hl := Ty.bulks_length ks1
  have hlk : ks1.length ≤ 1048576 := by omega
  have H4 := hid h4
  have IH := hid ih
  have HBK := hid hbk
  have HN := hid hN
  have HM := hid hM
  have HI := hid hi
  have HSC := hid (show (-9223372036854775808 ≤ k1 ∧ k1 ≤ 9223372036854775807) ∧ n1.size ≤ 9223372036854775807 from ⟨⟨lok, hik⟩, zn⟩)
  by_cases h4k : k1 = 4
  case pos =>
    subst h4k
    obtain ⟨x, hx, hgx⟩ := Ty.good_bang hg
    obtain ⟨k3, n3, ks3⟩ := x
    subst hx
    obtain ⟨b, o, rfl, hbl, hall⟩ := h4 (by simp)
    obtain ⟨aks3, cks3, q0, q1, q2, hrk⟩ := hall 0 k3 n3 ks3 rfl
    have hb2 : Below w.heap.size w ((w.alloc (.cells #[.int .i64 4, .string n1, .slice (some ⟨b, o, none⟩) 1 cks1] 28)).alloc (.cells #[.int .i64 0, .string ⟨#[]⟩, .slice none 0 0] 28)) := ((Below.refl _ _).alloc (Nat.le_refl _) _).alloc (by simp) _
    have d0 := (hb2.cell (p := ⟨b, o + 0 * 3, none⟩) hbl).trans q0
    have d1 := (hb2.cell (p := ⟨b, o + 0 * 3 + 1, none⟩) hbl).trans q1
    have d2 := (hb2.cell (p := ⟨b, o + 0 * 3 + 2, none⟩) hbl).trans q2
    simp only [Nat.zero_mul, Nat.add_zero] at d0 d1 d2
    have hbs : Ty.bulks [Ty.mk k3 n3 ks3] = 1 + Ty.bulk (Ty.mk k3 n3 ks3) := by simp [Ty.bulks]
    have hc := ih k3 n3 ks3 aks3 cks3 ((w.alloc (.cells #[.int .i64 4, .string n1, .slice (some ⟨b, o, none⟩) 1 cks1] 28)).alloc (.cells #[.int .i64 0, .string ⟨#[]⟩, .slice none 0 0] 28)) (by have := HN.out; have := HBK.out; omega) (by have := HM.out; have := HBK.out; omega) hgx (hrk.below hb2)
    obtain ⟨k5, n5, ks5, h5⟩ := Ty.eta (Ty.erase (Ty.mk k3 n3 ks3))
    have HE := hid (show Ty.erase (Ty.mk 4 n1 [Ty.mk k3 n3 ks3]) = Ty.mk k5 n5 ks5 from (Ty.erase_bang _ _).trans h5)
    rw [h5] at hc
    have HC := hid hc
    have hres : ((w.alloc (.cells #[.int .i64 4, .string n1, .slice (some ⟨b, o, none⟩) 1 cks1] 28)).alloc (.cells #[.int .i64 0, .string ⟨#[]⟩, .slice none 0 0] 28)).heap[w.heap.size + 1]? = some (.cells #[.int .i64 0, .string ⟨#[]⟩, .slice none 0 0] 28) := by have h := heap_alloc_new (w.alloc (.cells #[.int .i64 4, .string n1, .slice (some ⟨b, o, none⟩) 1 cks1] 28)) (.cells #[.int .i64 0, .string ⟨#[]⟩, .slice none 0 0] 28); rw [World.size_alloc] at h; exact h
    have HRZ := hid hres
    have HB2 := hid hb2
    show Calls Try.prog 49 #[.agg #[.int .i64 4, .string n1, .slice (some ⟨b, o, none⟩) 1 cks1]] w _
    clear hr h4 hall q0 q1 q2 hrk hc hres hb2 hg hgx ih hN hM hbk hks hi IH H4 h5 hbs
    go_enter Try.func49, Try.ntmps49
    go_wp2_with fail
    refine HC.out.mono ?_
    rintro e w1 ⟨a5, c5, rfl, ho5, hb5⟩
    have hx1 := (hb5.block _ (Array.getElem?_eq_some_iff.1 HRZ.out).1).trans HRZ.out
    have HX1 := hid hx1
    have HB5 := hid hb5
    have HO5 := hid ho5
    have z0 := heap_free hx1 0
    have z1 := heap_free hx1 1
    have z2 := heap_free hx1 2
    have r0 := heap_cell hx1 (j := 0) rfl
    have r1 := heap_cell hx1 (j := 1) rfl
    have r2 := heap_cell hx1 (j := 2) rfl
    have HS := hid (set3 hx1 (.int .i64 k5) (.string n5) (.slice a5 ks5.length c5))
    clear hb5 ho5 hx1 d0 d1 d2
    go_wp2_with fail
    have hc0 := heap_cell HS.out (j := 0) rfl
    have hc1 := heap_cell HS.out (j := 1) rfl
    have hc2 := heap_cell HS.out (j := 2) rfl
    refine bodyPost_ret (v := .agg #[.int .i64 k5, .string n5, .slice a5 ks5.length c5]) (by simp [results, Try.results49, go_sem, hc0, hc1, hc2]) rfl ?_
    refine GivesT.of_mk HE.out ?_ ?_
    · exact OwnS.mono (OwnS.keep HO5.out fun x hx _ => set3_ne _ _ _ (by have h := hx; simp at h; omega)) (by simp; omega)
    · exact ((((HB2.out.trans (HB5.out.mono HB2.out.size)).setCell (by simp) _).setCell (by simp) _).setCell (by simp) _)
  case neg =>
  have g4 : (k1 == 4) = false := by simp [h4k]
  have HRES := hid (Ty.erase_mk h4k n1 ks1)
  have HGK := hid (Ty.good_kids hg)
  clear hr h4 ih hN hM hbk hks hi hg h4k
  have hA3 := alloc3 w (.cells #[.int .i64 k1, .string n1, .slice aks1 ks1.length cks1] 28) (.cells #[.int .i64 0, .string ⟨#[]⟩, .slice none 0 0] 28) (.cells #[.int .i64 k1, .string n1, .slice none 0 0] 28)
  have HS0 := hid hA3.1
  have HS1 := hid hA3.2.1
  have HS2 := hid hA3.2.2.1
  have HSB := hid hA3.2.2.2.1
  have HSZ := hid hA3.2.2.2.2
  clear hA3
  go_enter Try.func49, Try.ntmps49
  go_wp2_with fail
  go_loopw [4] (fun i wr => ∃ (j : Nat) (v0 : Value), j ≤ ks1.length ∧ i = .int .i64 j ∧ Hid (wr.heap[w.heap.size]? = some (.cells #[.int .i64 k1, .string n1, .slice aks1 ks1.length cks1] 28)) ∧ Hid (wr.heap[w.heap.size + 1]? = some (.cells #[.int .i64 0, .string ⟨#[]⟩, .slice none 0 0] 28)) ∧ Hid (wr.heap[w.heap.size + 2]? = some (.cells #[.int .i64 k1, .string n1, v0] 28)) ∧ Hid (Below w.heap.size w wr) ∧ Hid (w.heap.size + 3 ≤ wr.heap.size) ∧ Hid (RowNow 28 3 (w.heap.size + 3) (Ty.ds (Ty.erases (ks1.take j))) v0 wr)) (fun i _ => ks1.length - (intOf i).toNat)
  case atStart => exact ⟨0, .slice none 0 0, by omega, rfl, HS0, HS1, HS2, HSB, HSZ, RowNow.nil _ _ _ _⟩
  case round =>
    obtain ⟨j, v0, hj, rfl, HX0, HX1, HX2, HB, HZ, HROW⟩ := hrel
    by_cases hlt : j < ks1.length
    case neg =>
      obtain rfl : j = ks1.length := by omega
      rw [List.take_length] at HROW
      obtain ⟨a2, c2, hv⟩ := HROW.out.slice
      rw [Ty.ds_length, Ty.erases_length] at hv
      subst hv
      have e0 := heap_cell HX0.out (j := 2) rfl
      have f0 := heap_cell HX2.out (j := 0) rfl
      have f1 := heap_cell HX2.out (j := 1) rfl
      have f2 := heap_cell HX2.out (j := 2) rfl
      have r0 := heap_cell HX1.out (j := 0) rfl
      have r1 := heap_cell HX1.out (j := 1) rfl
      have r2 := heap_cell HX1.out (j := 2) rfl
      have z0 := heap_free HX1.out 0
      have z1 := heap_free HX1.out 1
      have z2 := heap_free HX1.out 2
      go_wp2_with fail
      have hS := set3 HX1.out (.int .i64 k1) (.string n1) (.slice a2 ks1.length c2)
      have hc0 := heap_cell hS (j := 0) rfl
      have hc1 := heap_cell hS (j := 1) rfl
      have hc2 := heap_cell hS (j := 2) rfl
      refine bodyPost_ret (v := .agg #[.int .i64 k1, .string n1, .slice a2 ks1.length c2]) (by simp [results, Try.results49, go_sem, hc0, hc1, hc2]) rfl ?_
      have hO := HROW.out.own
      exact GivesT.of_len (B := w.heap.size + 3) HRES.out (Ty.erases_length _) HSC.out.1.1 HSC.out.1.2 HSC.out.2 (by omega) (OwnS.keep hO fun x hx _ => set3_ne _ _ _ (by omega)) (((HB.out.setCell (by simp) _).setCell (by simp) _).setCell (by simp) _)
    case pos =>
      obtain ⟨b, o, rfl, hbl, hall⟩ := H4.out (by omega)
      obtain ⟨t, ht⟩ : ∃ t, ks1[j]? = some t := ⟨_, List.getElem?_eq_getElem hlt⟩
      obtain ⟨k3, n3, ks3⟩ := t
      obtain ⟨aks3, cks3, q0, q1, q2, hrk⟩ := hall j k3 n3 ks3 ht
      clear hall H4
      have d0 := (HB.out.cell (p := ⟨b, o + j * 3, none⟩) hbl).trans q0
      have d1 := (HB.out.cell (p := ⟨b, o + j * 3 + 1, none⟩) hbl).trans q1
      have d2 := (HB.out.cell (p := ⟨b, o + j * 3 + 2, none⟩) hbl).trans q2
      have hbg := Ty.bulk_get ks1 j _ ht
      have HXK0 := HX0
      have HXK1 := HX1
      have HXK2 := HX2
      have HBK1 := HB
      have HZK := HZ
      have HROWK := HROW
      have hc := IH.out k3 n3 ks3 aks3 cks3 (wr).drew (by have := HN.out; have := HBK.out; omega) (by have := HM.out; have := HBK.out; omega) (Ty.goods_get ks1 j _ HGK.out ht) (hrk.below HBK1.out.drew)
      have hsn := Ty.erases_snoc ks1 j _ ht
      have HSN := hid hsn
      obtain ⟨k5, n5, ks5, h5⟩ := Ty.eta (Ty.erase (Ty.mk k3 n3 ks3))
      rw [h5] at hc
      have H5 := hid h5
      have HC := hid hc
      have e0 := heap_cell HX0.out (j := 2) rfl
      obtain ⟨xs, F, ho, hra, hw, hn⟩ := HROWK.out
      have hlen : (Ty.ds (Ty.erases (ks1.take j))).length = j := by rw [Ty.ds_length, Ty.erases_length, List.length_take]; omega
      rw [hlen] at ho
      have HO := hid ho
      have HRA := hid hra
      have HW := hid hw
      have HNO := hid hn
      have HLEN := hid hlen
      clear ht hrk q0 q1 q2 hbg hc hsn ho hra hw hn hlen h5
      have f2 := heap_cell HX2.out (j := 2) rfl
      go_wp2_with fail
      go_region_law (first
        | (go_simp; go_at_call 49; (with_reducible refine HC.out.mono ?_); rintro e W2 ⟨a5, c5, rfl, ho5, hb5⟩; have HO5 := hid ho5; have HB5 := hid hb5; have hal := (Below.refl W2.heap.size W2).alloc (Nat.le_refl _) (.cells #[.int .i64 k5, .string n5, .slice a5 ks5.length c5] 28); have HAL := hid hal; have hx2 := (hb5.block (w.heap.size + 2) (Array.getElem?_eq_some_iff.1 HXK2.out).1).trans HXK2.out; have hx2a := (hal.block _ (Array.getElem?_eq_some_iff.1 hx2).1).trans hx2; have HX2A := hid hx2a; have x2 := heap_cell hx2 (j := 2) rfl; have x2a := heap_cell hx2a (j := 2) rfl; have HOA := hid (ownsRow.below (ownsRow.below (w := (wr).drew) HO.out hb5) hal); have HZA := hid (Nat.le_trans HZK.out (Nat.le_trans hb5.size hal.size)); clear ho5 hb5 hal hx2 hx2a)
        | (refine step_append_lies _ (by rfl) _ _ _ (by rfl) (w.heap.size + 3) 28 i0 _ 3 48 Try.underlying26 HI.out hz0 hz1 hz2 rfl (by omega) v0 j xs (by rfl) HOA.out ⟨W2.heap.size, 0, none⟩ 1 1 [.int .i64 k5, .string n5, .slice a5 ks5.length c5] (by rfl) (by rfl) (World.news_of_block (cs := #[.int .i64 k5, .string n5, .slice a5 ks5.length c5]) (t := 28) (fr := (0, 0)) (heap_alloc_new W2 _)) (by simp [Value.oneCell']) (by omega) (by simp only [maxLen]; omega) (by omega) (by have := HZA.out; omega) (W2.heap.size + 1) (by simp) ?_; intro g cap W3 ho3 hg3 hat3 hlt3; have HO3 := hid ho3; have HG3 := hid hg3; have HAT3 := hid hat3; have hx3 := (hg3.block (w.heap.size + 2) (Array.getElem?_eq_some_iff.1 HX2A.out).1 (fun e => by have := (HOA.out.lt _ e.symm).1; omega)).trans HX2A.out; have HX3 := hid hx3; have y2 := heap_cell hx3 (j := 2) rfl; have z2 := heap_free hx3 2; clear ho3 hg3 hat3 hlt3 hx3))
      all_goals
        have HRR := hid (row_round (te := 28) (q := 2) (u := .slice (some ⟨g, 0, none⟩) (j + 1) cap) HBK1.out HZK.out HLEN.out HO.out HRA.out HW.out HNO.out ((Below.refl (wr).heap.size (wr)).drew.trans HB5.out) HO5.out HG3.out HO3.out HAT3.out)
        have HX2N := hid (heap_setCell_at W3 (w.heap.size + 2) 2 (.slice (some ⟨g, 0, none⟩) (j + 1) cap) HX3.out)
        clear HC IH e0 d0 d1 d2 y2 z2 x2 x2a f2
        go_wp2_with fail
        go_roundw
        case rel => exact ⟨j + 1, _, by omega, by go_num, (HRR.out.1 _ (by omega)).trans HXK0.out, (HRR.out.1 _ (by omega)).trans HXK1.out, HX2N.out, HRR.out.2.1, HRR.out.2.2.1, by rw [HSN.out, H5.out]; exact HRR.out.2.2.2⟩
        case measure => simp [intOf]; omega
theorem l02Erase_all : ∀ N, ErW N
  | 0 => fun _ _ _ _ _ _ h => absurd h (by omega)
  | N + 1 => l02Erase_step N (l02Erase_all N)
theorem spec_l02Erase (k1 : Int) (n1 : ByteArray) (ks1 : List Ty) (aks1 : Option Addr) (cks1 : Nat) (w : World) (hM : Ty.bulk (Ty.mk k1 n1 ks1) ≤ 1048576) (hg : Ty.good (Ty.mk k1 n1 ks1) = true) (hr : RdS w (Ty.d (Ty.mk k1 n1 ks1)) [.int .i64 k1, .string n1, .slice aks1 ks1.length cks1]) :
    Calls Try.prog 49 #[.agg #[.int .i64 k1, .string n1, .slice aks1 ks1.length cks1]] w (GivesT (Ty.erase (Ty.mk k1 n1 ks1)) w) := l02Erase_all (Ty.bulk (Ty.mk k1 n1 ks1) + 1) k1 n1 ks1 aks1 cks1 w (by omega) hM hg hr
end Go.Proofs.Ytgpefnlpbjnjbaa
