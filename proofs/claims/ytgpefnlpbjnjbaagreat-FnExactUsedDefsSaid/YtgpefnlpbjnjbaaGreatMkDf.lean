/- Walks: marks in definitions. -/
import Derived.Test.YtgpefnlpbjnjbaaGreatMkVal
import Derived.Test.YtgpefnlpbjnjbaaGreatDDf
import Derived.Lib.QuietBelow
namespace Go.Proofs.YtgpefnlpbjnjbaaGreat
open Go.ChangeShapes Go.WideShapes Go.ChangeAt Go.RowKit
set_option linter.unusedVariables false

theorem lens_Df : ∀ ts : List Df, D.lens (Df.ds ts) = ts.length * 12
  | [] => rfl
  | t :: ts => by simp [Df.ds, D.lens, Df.d_len, lens_Df ts]; omega
set_option maxRecDepth 100000 in
set_option maxHeartbeats 4000000 in
theorem markDfs (ts : List Df) (a : Option Addr) (c : Nat) (F : List Nat) (k : Nat) (w : World) (hlen : ts.length ≤ 9223372036854775807) (hk : k + D.nums (Df.ds ts) ≤ 1099511627776) (hr : Rd w (.list (Df.ds ts)) [.slice a ts.length c] F) (ho : Owned w 0 F) :
    Calls Tryz.prog 31 #[.slice a ts.length c, .int .i64 k] w (MkPost w (.slice a ts.length c) F k (Df.ds ts)) := by
  have hdl := Df.ds_length ts
  by_cases hne : ts = []
  case pos =>
    have HP := hid (show MkPost w (.slice a ts.length c) F k (Df.ds ts) (.returned (.int .i64 k)) w by
      subst hne
      exact ⟨by simp [Df.ds, D.nums], by simpa [Df.ds, D.marks] using hr, Mk.refl _ _⟩)
    have hz : ts.length = 0 := by rw [hne]; rfl
    clear hr ho hk hdl hne
    go_enter Tryz.func31, Tryz.ntmps31
    go_wp2_with fail
    go_loopw [1, 5] (fun q i wr => ∃ (j : Nat), j = 0 ∧ i = .int .i64 j ∧ q = .int .i64 k ∧ w = wr) (fun _ i _ => 0)
    case atStart => exact ⟨0, rfl, rfl, rfl, rfl⟩
    case round =>
      obtain ⟨j, hj, rfl, rfl, rfl⟩ := hrel
      have hlt : ¬ j < ts.length := by omega
      go_wp2_with fail
      go_ret
      exact HP.out
  case neg =>
  have hdne : Df.ds ts ≠ [] := fun e => hne (List.length_eq_zero_iff.1 (by rw [← hdl, e]; rfl))
  obtain ⟨a', cap', e, h2, h3, h4⟩ := hr.list_inv
  simp only [List.cons.injEq, Value.slice.injEq, and_true] at e
  obtain ⟨rfl, -, rfl⟩ := e
  rcases h4 with ⟨h, _⟩ | ⟨b, o, xs, F', _, rfl, rfl, hbl, hx, hr'⟩
  · exact absurd h hdne
  have HRW := hid (RowMk.start (k := k) hx hr' ho)
  have HDN := hid (fun p W (h : RowMk k (D.flats (Df.ds ts)) F' b o p W) (hp : p = (D.flats (Df.ds ts)).length) => h.done hp hdl.symm hdne (by omega) h3)
  have HFL := hid (show (D.flats (Df.ds ts)).length = ts.length * 12 by rw [D.flats_length]; exact lens_Df ts)
  have HNU := hid (D.flats_num (Df.ds ts))
  have HLL := hid (D.flats_leaf (Df.ds ts))
  have HGT := hid (fun j i d x h1 h2 => D.flats_get (m := 12) (Df.ds ts) j i d x (Df.ds_len ts) h1 h2)
  have HGE := hid (Df.ds_get ts)
  generalize hL : D.flats (Df.ds ts) = L at HRW HDN HFL HNU HLL HGT
  have HK := hid hk
  have HNE := hid hne
  clear hr ho hk hdl hne hdne hx hr' hL h2 hbl
  go_enter Tryz.func31, Tryz.ntmps31
  go_wp2_with fail
  go_loopw [1, 5] (fun q i wr => ∃ (j kk : Nat), j ≤ ts.length ∧ i = .int .i64 j ∧ q = .int .i64 kk ∧ Hid (k + D.nums (L.take (j * 12)) = kk) ∧ Hid (RowMk k L F' b o (j * 12) wr) ∧ Hid (Mk (b :: F') w wr)) (fun _ i _ => ts.length - (intOf i).toNat)
  case atStart => exact ⟨0, k, by omega, rfl, rfl, by simp [D.nums, Hid], by simpa [Hid] using HRW.out, Mk.refl _ _⟩
  case round =>
    obtain ⟨j, kk, hj, rfl, rfl, HE0, HS0, HM0⟩ := hrel
    have hkk : kk ≤ 1099511627776 := by have h1 := HE0.out; have h2 := D.nums_take_le L (j * 12); have h3 := HNU.out; have h4 := HK.out; omega
    by_cases hlt : j < ts.length
    case neg =>
      have HP := hid (show MkPost w (.slice (some ⟨b, o, none⟩) ts.length c) (b :: F') k (Df.ds ts) (.returned (.int .i64 kk)) wr by
        obtain rfl : j = ts.length := by omega
        refine ⟨?_, HDN.out _ _ HS0.out HFL.out.symm, HM0.out⟩
        have h1 := HE0.out
        rw [← HFL.out, List.take_length, HNU.out] at h1
        rw [h1])
      go_wp2_with fail
      go_ret
      exact HP.out
    case pos =>
      obtain ⟨t, ht⟩ : ∃ t, ts[j]? = some t := ⟨_, List.getElem?_eq_getElem hlt⟩
      obtain ⟨n3, ⟨tk3, tn3, tks3⟩, ⟨bk3, bu3, bn3, ⟨btk3, btn3, btks3⟩, bns3, bks3⟩⟩ := t
      have hL0 : L[j * 12]? = some (.str n3) := HGT.out j 0 (Df.d (Df.mk n3 (Ty.mk tk3 tn3 tks3) (Tm.mk bk3 bu3 bn3 (Ty.mk btk3 btn3 btks3) bns3 bks3))) (.str n3) (by rw [HGE.out, ht]; rfl) (by simp [Df.d, Tm.d, Ty.d, D.flat, D.flats])
      have hL1 : L[j * 12 + 1]? = some (.int tk3) := HGT.out j 1 (Df.d (Df.mk n3 (Ty.mk tk3 tn3 tks3) (Tm.mk bk3 bu3 bn3 (Ty.mk btk3 btn3 btks3) bns3 bks3))) (.int tk3) (by rw [HGE.out, ht]; rfl) (by simp [Df.d, Tm.d, Ty.d, D.flat, D.flats])
      have hL2 : L[j * 12 + 2]? = some (.str tn3) := HGT.out j 2 (Df.d (Df.mk n3 (Ty.mk tk3 tn3 tks3) (Tm.mk bk3 bu3 bn3 (Ty.mk btk3 btn3 btks3) bns3 bks3))) (.str tn3) (by rw [HGE.out, ht]; rfl) (by simp [Df.d, Tm.d, Ty.d, D.flat, D.flats])
      have hL3 : L[j * 12 + 3]? = some (.list (Ty.ds tks3)) := HGT.out j 3 (Df.d (Df.mk n3 (Ty.mk tk3 tn3 tks3) (Tm.mk bk3 bu3 bn3 (Ty.mk btk3 btn3 btks3) bns3 bks3))) (.list (Ty.ds tks3)) (by rw [HGE.out, ht]; rfl) (by simp [Df.d, Tm.d, Ty.d, D.flat, D.flats])
      have hL4 : L[j * 12 + 4]? = some (.int bk3) := HGT.out j 4 (Df.d (Df.mk n3 (Ty.mk tk3 tn3 tks3) (Tm.mk bk3 bu3 bn3 (Ty.mk btk3 btn3 btks3) bns3 bks3))) (.int bk3) (by rw [HGE.out, ht]; rfl) (by simp [Df.d, Tm.d, Ty.d, D.flat, D.flats])
      have hL5 : L[j * 12 + 5]? = some (.int bu3) := HGT.out j 5 (Df.d (Df.mk n3 (Ty.mk tk3 tn3 tks3) (Tm.mk bk3 bu3 bn3 (Ty.mk btk3 btn3 btks3) bns3 bks3))) (.int bu3) (by rw [HGE.out, ht]; rfl) (by simp [Df.d, Tm.d, Ty.d, D.flat, D.flats])
      have hL6 : L[j * 12 + 6]? = some (.str bn3) := HGT.out j 6 (Df.d (Df.mk n3 (Ty.mk tk3 tn3 tks3) (Tm.mk bk3 bu3 bn3 (Ty.mk btk3 btn3 btks3) bns3 bks3))) (.str bn3) (by rw [HGE.out, ht]; rfl) (by simp [Df.d, Tm.d, Ty.d, D.flat, D.flats])
      have hL7 : L[j * 12 + 7]? = some (.int btk3) := HGT.out j 7 (Df.d (Df.mk n3 (Ty.mk tk3 tn3 tks3) (Tm.mk bk3 bu3 bn3 (Ty.mk btk3 btn3 btks3) bns3 bks3))) (.int btk3) (by rw [HGE.out, ht]; rfl) (by simp [Df.d, Tm.d, Ty.d, D.flat, D.flats])
      have hL8 : L[j * 12 + 8]? = some (.str btn3) := HGT.out j 8 (Df.d (Df.mk n3 (Ty.mk tk3 tn3 tks3) (Tm.mk bk3 bu3 bn3 (Ty.mk btk3 btn3 btks3) bns3 bks3))) (.str btn3) (by rw [HGE.out, ht]; rfl) (by simp [Df.d, Tm.d, Ty.d, D.flat, D.flats])
      have hL9 : L[j * 12 + 9]? = some (.list (Ty.ds btks3)) := HGT.out j 9 (Df.d (Df.mk n3 (Ty.mk tk3 tn3 tks3) (Tm.mk bk3 bu3 bn3 (Ty.mk btk3 btn3 btks3) bns3 bks3))) (.list (Ty.ds btks3)) (by rw [HGE.out, ht]; rfl) (by simp [Df.d, Tm.d, Ty.d, D.flat, D.flats])
      have hL10 : L[j * 12 + 10]? = some (.list (Sr.ds bns3)) := HGT.out j 10 (Df.d (Df.mk n3 (Ty.mk tk3 tn3 tks3) (Tm.mk bk3 bu3 bn3 (Ty.mk btk3 btn3 btks3) bns3 bks3))) (.list (Sr.ds bns3)) (by rw [HGE.out, ht]; rfl) (by simp [Df.d, Tm.d, Ty.d, D.flat, D.flats])
      have hL11 : L[j * 12 + 11]? = some (.list (Tm.ds bks3)) := HGT.out j 11 (Df.d (Df.mk n3 (Ty.mk tk3 tn3 tks3) (Tm.mk bk3 bu3 bn3 (Ty.mk btk3 btn3 btks3) bns3 bks3))) (.list (Tm.ds bks3)) (by rw [HGE.out, ht]; rfl) (by simp [Df.d, Tm.d, Ty.d, D.flat, D.flats])
      have hT0 := fun W => mark_Text (kk) (by omega) W
      have HT0 := hid hT0
      clear hT0
      go_wp2_with fail
      refine (HT0.out _).mono ?_
      rintro e u0 ⟨rfl, hbb⟩
      have T0 := hid (HS0.out.below hbb)
      have N0 := hid (HM0.out.trans (Mk.of_below hbb))
      clear hbb
      obtain ⟨v0, G0, c0, z0, r0⟩ := T0.out.peek HLL.out (j * 12) (by omega) hL0
      have c0' : u0.cell? ⟨b, o + j * 12, none⟩ = some v0 := c0
      have z0' : u0.frozen? ⟨b, o + j * 12, none⟩ = false := z0
      obtain ⟨v1, G1, c1, z1, r1⟩ := T0.out.peek HLL.out (j * 12 + 1) (by omega) hL1
      have c1' : u0.cell? ⟨b, o + j * 12 + 1, none⟩ = some v1 := c1
      have z1' : u0.frozen? ⟨b, o + j * 12 + 1, none⟩ = false := z1
      have hv0 : ∀ W, Rd W (D.mark (k + D.nums (L.take (j * 12))) (.str n3)) [.string (mtxt (kk))] [] := fun W => by rw [HE0.out]; have := Rd.str_mk (w := W) (s := mtxt (kk)) (by have := mtxt_size (kk); omega); simpa [D.mark] using this
      have S1 : Hid (RowMk k L F' b o (j * 12 + 1) _) := hid ((T0.out.scalar HLL.out hL0 Rd.str_sc).2.2 _ hv0)
      have M1 := hid (N0.out.trans (Mk.set (o := o + (j * 12)) (.string (mtxt (kk))) (List.mem_cons_self)))
      have E1 := hid (show k + D.nums (L.take (j * 12 + 1)) = kk + 1 by have h1 : D.nums (L.take (j * 12 + 1)) = _ := D.nums_take L _ _ hL0; have h2 := HE0.out; have h3 : D.num (.str n3) = 1 := rfl; omega)
      have hb1 : kk + 1 ≤ 1099511627776 := by have h1 := E1.out; have h2 := D.nums_take_le L (j * 12 + 1); have h3 := HNU.out; have h4 := HK.out; omega
      have hv1 : ∀ W, Rd W (D.mark (k + D.nums (L.take (j * 12 + 1))) (.int tk3)) [.int .i64 ((kk : Int) + 1)] [] := fun W => by rw [E1.out]; have := Rd.int_mk (w := W) (n := ((kk + 1 : Nat) : Int)) (by omega) (by omega); simpa [D.mark] using this
      have S2 : Hid (RowMk k L F' b o (j * 12 + 2) _) := hid ((S1.out.scalar HLL.out hL1 Rd.int_sc).2.2 _ hv1)
      have M2 := hid (M1.out.trans (Mk.set (o := o + (j * 12 + 1)) (.int .i64 ((kk : Int) + 1)) (List.mem_cons_self)))
      have E2 := hid (show k + D.nums (L.take (j * 12 + 2)) = kk + 1 + 1 by have h1 : D.nums (L.take (j * 12 + 2)) = _ := D.nums_take L _ _ hL1; have h2 := E1.out; have h3 : D.num (.int tk3) = 1 := rfl; omega)
      have hb2 : kk + 1 + 1 ≤ 1099511627776 := by have h1 := E2.out; have h2 := D.nums_take_le L (j * 12 + 2); have h3 := HNU.out; have h4 := HK.out; omega
      have hT2 := fun W => mark_Text (kk + 1 + 1) (by omega) W
      rw [show ((kk + 1 + 1 : Nat) : Int) = (kk : Int) + 1 + 1 from by omega] at hT2
      have HT2 := hid hT2
      clear hT2
      go_wp2_with fail
      refine (HT2.out _).mono ?_
      rintro e u2 ⟨rfl, hbb⟩
      have T2 := hid (S2.out.below hbb)
      have N2 := hid (M2.out.trans (Mk.of_below hbb))
      clear hbb c0' z0' c1' z1'
      obtain ⟨v2, G2, c2, z2, r2⟩ := T2.out.peek HLL.out (j * 12 + 2) (by omega) hL2
      have c2' : u2.cell? ⟨b, o + j * 12 + 2, none⟩ = some v2 := c2
      have z2' : u2.frozen? ⟨b, o + j * 12 + 2, none⟩ = false := z2
      have hv2 : ∀ W, Rd W (D.mark (k + D.nums (L.take (j * 12 + 2))) (.str tn3)) [.string (mtxt (kk + 1 + 1))] [] := fun W => by rw [E2.out]; have := Rd.str_mk (w := W) (s := mtxt (kk + 1 + 1)) (by have := mtxt_size (kk + 1 + 1); omega); simpa [D.mark] using this
      have S3 : Hid (RowMk k L F' b o (j * 12 + 3) _) := hid ((T2.out.scalar HLL.out hL2 Rd.str_sc).2.2 _ hv2)
      have M3 := hid (N2.out.trans (Mk.set (o := o + (j * 12 + 2)) (.string (mtxt (kk + 1 + 1))) (List.mem_cons_self)))
      have E3 := hid (show k + D.nums (L.take (j * 12 + 3)) = kk + 1 + 1 + 1 by have h1 : D.nums (L.take (j * 12 + 3)) = _ := D.nums_take L _ _ hL2; have h2 := E2.out; have h3 : D.num (.str tn3) = 1 := rfl; omega)
      have hb3 : kk + 1 + 1 + 1 ≤ 1099511627776 := by have h1 := E3.out; have h2 := D.nums_take_le L (j * 12 + 3); have h3 := HNU.out; have h4 := HK.out; omega
      obtain ⟨y3, G3', c3'', r3', o3', s3', set3⟩ := S3.out.list HLL.out hL3
      obtain ⟨a3, n3, ee3, h23, h33, -⟩ := r3'.list_inv
      simp only [List.cons.injEq, and_true, Ty.ds_length] at ee3 h23
      obtain rfl := ee3
      have c3' : u2.cell? ⟨b, o + j * 12 + 3, none⟩ = some (.slice a3 tks3.length n3) := by have h := c3''; rw [cell_set_ne (by omega)] at h; exact h
      obtain ⟨kx3, hkx3⟩ : ∃ kx, kx = kk + 1 + 1 + 1 + D.nums (Ty.ds tks3) := ⟨_, rfl⟩
      have E4 := hid (show k + D.nums (L.take (j * 12 + 4)) = kx3 by have h1 : D.nums (L.take (j * 12 + 4)) = _ := D.nums_take L _ _ hL3; have h2 := E3.out; have h3 : D.num (.list (Ty.ds tks3)) = D.nums (Ty.ds tks3) := (by rw [D.num]); omega)
      have hb4 : kx3 ≤ 1099511627776 := by have h1 := E4.out; have h2 := D.nums_take_le L (j * 12 + 4); have h3 := HNU.out; have h4 := HK.out; omega
      have hc3 := markTys tks3 a3 n3 G3' (kk + 1 + 1 + 1) _ (by omega) (by omega) r3' o3'
      unfold MkPost at hc3
      rw [← hkx3] at hc3
      rw [show ((kk + 1 + 1 + 1 : Nat) : Int) = (kk : Int) + 1 + 1 + 1 from by omega] at hc3
      have HKX3 := hid hkx3
      clear hkx3
      have HC3 := hid hc3
      have HST3 := hid set3
      rw [E3.out] at HST3
      have HSU3 := hid s3'
      clear hc3 set3 s3' r3' o3' c3''
      go_wp2_with fail
      refine HC3.out.mono ?_
      rintro e u3 ⟨rfl, hrd, hmk⟩
      have S4 : Hid (RowMk k L F' b o (j * 12 + 4) _) := hid (HST3.out _ hmk hrd)
      have M4 := hid (M3.out.trans (hmk.mono fun x hx => List.mem_cons_of_mem _ (HSU3.out x hx)))
      clear hmk hrd HC3 HST3 c2' z2' c3'
      obtain ⟨v4, G4, c4, z4, r4⟩ := S4.out.peek HLL.out (j * 12 + 4) (by omega) hL4
      have c4' : u3.cell? ⟨b, o + j * 12 + 4, none⟩ = some v4 := c4
      have z4' : u3.frozen? ⟨b, o + j * 12 + 4, none⟩ = false := z4
      obtain ⟨v5, G5, c5, z5, r5⟩ := S4.out.peek HLL.out (j * 12 + 5) (by omega) hL5
      have c5' : u3.cell? ⟨b, o + j * 12 + 5, none⟩ = some v5 := c5
      have z5' : u3.frozen? ⟨b, o + j * 12 + 5, none⟩ = false := z5
      have hv4 : ∀ W, Rd W (D.mark (k + D.nums (L.take (j * 12 + 4))) (.int bk3)) [.int .i64 ((kx3 : Int))] [] := fun W => by rw [E4.out]; have := Rd.int_mk (w := W) (n := ((kx3 : Nat) : Int)) (by omega) (by omega); simpa [D.mark] using this
      have S5 : Hid (RowMk k L F' b o (j * 12 + 5) _) := hid ((S4.out.scalar HLL.out hL4 Rd.int_sc).2.2 _ hv4)
      have M5 := hid (M4.out.trans (Mk.set (o := o + (j * 12 + 4)) (.int .i64 ((kx3 : Int))) (List.mem_cons_self)))
      have E5 := hid (show k + D.nums (L.take (j * 12 + 5)) = kx3 + 1 by have h1 : D.nums (L.take (j * 12 + 5)) = _ := D.nums_take L _ _ hL4; have h2 := E4.out; have h3 : D.num (.int bk3) = 1 := rfl; omega)
      have hb5 : kx3 + 1 ≤ 1099511627776 := by have h1 := E5.out; have h2 := D.nums_take_le L (j * 12 + 5); have h3 := HNU.out; have h4 := HK.out; omega
      have hv5 : ∀ W, Rd W (D.mark (k + D.nums (L.take (j * 12 + 5))) (.int bu3)) [.int .i64 ((kx3 : Int) + 1)] [] := fun W => by rw [E5.out]; have := Rd.int_mk (w := W) (n := ((kx3 + 1 : Nat) : Int)) (by omega) (by omega); simpa [D.mark] using this
      have S6 : Hid (RowMk k L F' b o (j * 12 + 6) _) := hid ((S5.out.scalar HLL.out hL5 Rd.int_sc).2.2 _ hv5)
      have M6 := hid (M5.out.trans (Mk.set (o := o + (j * 12 + 5)) (.int .i64 ((kx3 : Int) + 1)) (List.mem_cons_self)))
      have E6 := hid (show k + D.nums (L.take (j * 12 + 6)) = kx3 + 1 + 1 by have h1 : D.nums (L.take (j * 12 + 6)) = _ := D.nums_take L _ _ hL5; have h2 := E5.out; have h3 : D.num (.int bu3) = 1 := rfl; omega)
      have hb6 : kx3 + 1 + 1 ≤ 1099511627776 := by have h1 := E6.out; have h2 := D.nums_take_le L (j * 12 + 6); have h3 := HNU.out; have h4 := HK.out; omega
      have hT6 := fun W => mark_Text (kx3 + 1 + 1) (by omega) W
      rw [show ((kx3 + 1 + 1 : Nat) : Int) = (kx3 : Int) + 1 + 1 from by omega] at hT6
      have HT6 := hid hT6
      clear hT6
      go_wp2_with fail
      refine (HT6.out _).mono ?_
      rintro e u6 ⟨rfl, hbb⟩
      have T6 := hid (S6.out.below hbb)
      have N6 := hid (M6.out.trans (Mk.of_below hbb))
      clear hbb c4' z4' c5' z5'
      obtain ⟨v6, G6, c6, z6, r6⟩ := T6.out.peek HLL.out (j * 12 + 6) (by omega) hL6
      have c6' : u6.cell? ⟨b, o + j * 12 + 6, none⟩ = some v6 := c6
      have z6' : u6.frozen? ⟨b, o + j * 12 + 6, none⟩ = false := z6
      obtain ⟨v7, G7, c7, z7, r7⟩ := T6.out.peek HLL.out (j * 12 + 7) (by omega) hL7
      have c7' : u6.cell? ⟨b, o + j * 12 + 7, none⟩ = some v7 := c7
      have z7' : u6.frozen? ⟨b, o + j * 12 + 7, none⟩ = false := z7
      have hv6 : ∀ W, Rd W (D.mark (k + D.nums (L.take (j * 12 + 6))) (.str bn3)) [.string (mtxt (kx3 + 1 + 1))] [] := fun W => by rw [E6.out]; have := Rd.str_mk (w := W) (s := mtxt (kx3 + 1 + 1)) (by have := mtxt_size (kx3 + 1 + 1); omega); simpa [D.mark] using this
      have S7 : Hid (RowMk k L F' b o (j * 12 + 7) _) := hid ((T6.out.scalar HLL.out hL6 Rd.str_sc).2.2 _ hv6)
      have M7 := hid (N6.out.trans (Mk.set (o := o + (j * 12 + 6)) (.string (mtxt (kx3 + 1 + 1))) (List.mem_cons_self)))
      have E7 := hid (show k + D.nums (L.take (j * 12 + 7)) = kx3 + 1 + 1 + 1 by have h1 : D.nums (L.take (j * 12 + 7)) = _ := D.nums_take L _ _ hL6; have h2 := E6.out; have h3 : D.num (.str bn3) = 1 := rfl; omega)
      have hb7 : kx3 + 1 + 1 + 1 ≤ 1099511627776 := by have h1 := E7.out; have h2 := D.nums_take_le L (j * 12 + 7); have h3 := HNU.out; have h4 := HK.out; omega
      have hv7 : ∀ W, Rd W (D.mark (k + D.nums (L.take (j * 12 + 7))) (.int btk3)) [.int .i64 ((kx3 : Int) + 1 + 1 + 1)] [] := fun W => by rw [E7.out]; have := Rd.int_mk (w := W) (n := ((kx3 + 1 + 1 + 1 : Nat) : Int)) (by omega) (by omega); simpa [D.mark] using this
      have S8 : Hid (RowMk k L F' b o (j * 12 + 8) _) := hid ((S7.out.scalar HLL.out hL7 Rd.int_sc).2.2 _ hv7)
      have M8 := hid (M7.out.trans (Mk.set (o := o + (j * 12 + 7)) (.int .i64 ((kx3 : Int) + 1 + 1 + 1)) (List.mem_cons_self)))
      have E8 := hid (show k + D.nums (L.take (j * 12 + 8)) = kx3 + 1 + 1 + 1 + 1 by have h1 : D.nums (L.take (j * 12 + 8)) = _ := D.nums_take L _ _ hL7; have h2 := E7.out; have h3 : D.num (.int btk3) = 1 := rfl; omega)
      have hb8 : kx3 + 1 + 1 + 1 + 1 ≤ 1099511627776 := by have h1 := E8.out; have h2 := D.nums_take_le L (j * 12 + 8); have h3 := HNU.out; have h4 := HK.out; omega
      have hT8 := fun W => mark_Text (kx3 + 1 + 1 + 1 + 1) (by omega) W
      rw [show ((kx3 + 1 + 1 + 1 + 1 : Nat) : Int) = (kx3 : Int) + 1 + 1 + 1 + 1 from by omega] at hT8
      have HT8 := hid hT8
      clear hT8
      go_wp2_with fail
      refine (HT8.out _).mono ?_
      rintro e u8 ⟨rfl, hbb⟩
      have T8 := hid (S8.out.below hbb)
      have N8 := hid (M8.out.trans (Mk.of_below hbb))
      clear hbb c6' z6' c7' z7'
      obtain ⟨v8, G8, c8, z8, r8⟩ := T8.out.peek HLL.out (j * 12 + 8) (by omega) hL8
      have c8' : u8.cell? ⟨b, o + j * 12 + 8, none⟩ = some v8 := c8
      have z8' : u8.frozen? ⟨b, o + j * 12 + 8, none⟩ = false := z8
      have hv8 : ∀ W, Rd W (D.mark (k + D.nums (L.take (j * 12 + 8))) (.str btn3)) [.string (mtxt (kx3 + 1 + 1 + 1 + 1))] [] := fun W => by rw [E8.out]; have := Rd.str_mk (w := W) (s := mtxt (kx3 + 1 + 1 + 1 + 1)) (by have := mtxt_size (kx3 + 1 + 1 + 1 + 1); omega); simpa [D.mark] using this
      have S9 : Hid (RowMk k L F' b o (j * 12 + 9) _) := hid ((T8.out.scalar HLL.out hL8 Rd.str_sc).2.2 _ hv8)
      have M9 := hid (N8.out.trans (Mk.set (o := o + (j * 12 + 8)) (.string (mtxt (kx3 + 1 + 1 + 1 + 1))) (List.mem_cons_self)))
      have E9 := hid (show k + D.nums (L.take (j * 12 + 9)) = kx3 + 1 + 1 + 1 + 1 + 1 by have h1 : D.nums (L.take (j * 12 + 9)) = _ := D.nums_take L _ _ hL8; have h2 := E8.out; have h3 : D.num (.str btn3) = 1 := rfl; omega)
      have hb9 : kx3 + 1 + 1 + 1 + 1 + 1 ≤ 1099511627776 := by have h1 := E9.out; have h2 := D.nums_take_le L (j * 12 + 9); have h3 := HNU.out; have h4 := HK.out; omega
      obtain ⟨y9, G9', c9'', r9', o9', s9', set9⟩ := S9.out.list HLL.out hL9
      obtain ⟨a9, n9, ee9, h29, h39, -⟩ := r9'.list_inv
      simp only [List.cons.injEq, and_true, Ty.ds_length] at ee9 h29
      obtain rfl := ee9
      have c9' : u8.cell? ⟨b, o + j * 12 + 9, none⟩ = some (.slice a9 btks3.length n9) := by have h := c9''; rw [cell_set_ne (by omega)] at h; exact h
      obtain ⟨kx9, hkx9⟩ : ∃ kx, kx = kx3 + 1 + 1 + 1 + 1 + 1 + D.nums (Ty.ds btks3) := ⟨_, rfl⟩
      have E10 := hid (show k + D.nums (L.take (j * 12 + 10)) = kx9 by have h1 : D.nums (L.take (j * 12 + 10)) = _ := D.nums_take L _ _ hL9; have h2 := E9.out; have h3 : D.num (.list (Ty.ds btks3)) = D.nums (Ty.ds btks3) := (by rw [D.num]); omega)
      have hb10 : kx9 ≤ 1099511627776 := by have h1 := E10.out; have h2 := D.nums_take_le L (j * 12 + 10); have h3 := HNU.out; have h4 := HK.out; omega
      have hc9 := markTys btks3 a9 n9 G9' (kx3 + 1 + 1 + 1 + 1 + 1) _ (by omega) (by omega) r9' o9'
      unfold MkPost at hc9
      rw [← hkx9] at hc9
      rw [show ((kx3 + 1 + 1 + 1 + 1 + 1 : Nat) : Int) = (kx3 : Int) + 1 + 1 + 1 + 1 + 1 from by omega] at hc9
      have HKX9 := hid hkx9
      clear hkx9
      have HC9 := hid hc9
      have HST9 := hid set9
      rw [E9.out] at HST9
      have HSU9 := hid s9'
      clear hc9 set9 s9' r9' o9' c9''
      go_wp2_with fail
      refine HC9.out.mono ?_
      rintro e u9 ⟨rfl, hrd, hmk⟩
      have S10 : Hid (RowMk k L F' b o (j * 12 + 10) _) := hid (HST9.out _ hmk hrd)
      have M10 := hid (M9.out.trans (hmk.mono fun x hx => List.mem_cons_of_mem _ (HSU9.out x hx)))
      clear hmk hrd HC9 HST9 c8' z8' c9'
      obtain ⟨y10, G10', c10'', r10', o10', s10', set10⟩ := S10.out.list HLL.out hL10
      obtain ⟨a10, n10, ee10, h210, h310, -⟩ := r10'.list_inv
      simp only [List.cons.injEq, and_true, Sr.ds_length] at ee10 h210
      obtain rfl := ee10
      have c10' : u9.cell? ⟨b, o + j * 12 + 10, none⟩ = some (.slice a10 bns3.length n10) := by have h := c10''; exact h
      obtain ⟨kx10, hkx10⟩ : ∃ kx, kx = kx9 + D.nums (Sr.ds bns3) := ⟨_, rfl⟩
      have E11 := hid (show k + D.nums (L.take (j * 12 + 11)) = kx10 by have h1 : D.nums (L.take (j * 12 + 11)) = _ := D.nums_take L _ _ hL10; have h2 := E10.out; have h3 : D.num (.list (Sr.ds bns3)) = D.nums (Sr.ds bns3) := (by rw [D.num]); omega)
      have hb11 : kx10 ≤ 1099511627776 := by have h1 := E11.out; have h2 := D.nums_take_le L (j * 12 + 11); have h3 := HNU.out; have h4 := HK.out; omega
      have hc10 := markSrs bns3 a10 n10 G10' (kx9) _ (by omega) (by omega) r10' o10'
      unfold MkPost at hc10
      rw [← hkx10] at hc10
      have HKX10 := hid hkx10
      clear hkx10
      have HC10 := hid hc10
      have HST10 := hid set10
      rw [E10.out] at HST10
      have HSU10 := hid s10'
      clear hc10 set10 s10' r10' o10' c10''
      go_wp2_with fail
      refine HC10.out.mono ?_
      rintro e u10 ⟨rfl, hrd, hmk⟩
      have S11 : Hid (RowMk k L F' b o (j * 12 + 11) _) := hid (HST10.out _ hmk hrd)
      have M11 := hid (M10.out.trans (hmk.mono fun x hx => List.mem_cons_of_mem _ (HSU10.out x hx)))
      clear hmk hrd HC10 HST10 c10'
      obtain ⟨y11, G11', c11'', r11', o11', s11', set11⟩ := S11.out.list HLL.out hL11
      obtain ⟨a11, n11, ee11, h211, h311, -⟩ := r11'.list_inv
      simp only [List.cons.injEq, and_true, Tm.ds_length] at ee11 h211
      obtain rfl := ee11
      have c11' : u10.cell? ⟨b, o + j * 12 + 11, none⟩ = some (.slice a11 bks3.length n11) := by have h := c11''; exact h
      obtain ⟨kx11, hkx11⟩ : ∃ kx, kx = kx10 + D.nums (Tm.ds bks3) := ⟨_, rfl⟩
      have E12 := hid (show k + D.nums (L.take (j * 12 + 12)) = kx11 by have h1 : D.nums (L.take (j * 12 + 12)) = _ := D.nums_take L _ _ hL11; have h2 := E11.out; have h3 : D.num (.list (Tm.ds bks3)) = D.nums (Tm.ds bks3) := (by rw [D.num]); omega)
      have hb12 : kx11 ≤ 1099511627776 := by have h1 := E12.out; have h2 := D.nums_take_le L (j * 12 + 12); have h3 := HNU.out; have h4 := HK.out; omega
      have hc11 := markTms bks3 a11 n11 G11' (kx10) _ (by omega) (by omega) r11' o11'
      unfold MkPost at hc11
      rw [← hkx11] at hc11
      have HKX11 := hid hkx11
      clear hkx11
      have HC11 := hid hc11
      have HST11 := hid set11
      rw [E11.out] at HST11
      have HSU11 := hid s11'
      clear hc11 set11 s11' r11' o11' c11''
      go_wp2_with fail
      refine HC11.out.mono ?_
      rintro e u11 ⟨rfl, hrd, hmk⟩
      have S12 : Hid (RowMk k L F' b o (j * 12 + 12) _) := hid (HST11.out _ hmk hrd)
      have M12 := hid (M11.out.trans (hmk.mono fun x hx => List.mem_cons_of_mem _ (HSU11.out x hx)))
      clear hmk hrd HC11 HST11 c11'
      go_wp2_with fail
      go_roundw
      case rel => exact ⟨j + 1, kx11, by omega, by go_num, by go_num, by rw [Nat.succ_mul]; exact E12, by rw [Nat.succ_mul]; exact S12, M12⟩
      case measure => simp [intOf]; omega
theorem Df.num_le : ∀ t : Df, D.num (Df.d t) ≤ 8 + 8 * Df.bulk t
  | .mk n t b => by have h1 := Ty.num_le t; have h2 := Tm.num_le b; simp only [Df.d, D.num, D.nums, Df.bulk] at *; omega
theorem Df.nums_le : ∀ ts : List Df, D.nums (Df.ds ts) ≤ 8 * Df.bulks ts
  | [] => by simp [Df.ds, D.nums]
  | t :: ts => by have h1 := Df.num_le t; have h2 := Df.nums_le ts; simp only [Df.ds, D.nums, Df.bulks]; omega
end Go.Proofs.YtgpefnlpbjnjbaaGreat
