/- Walks: marks in terms. -/
import Derived.Test.YtgpefnlpbjnjbaaGreatMkTy
import Derived.Test.YtgpefnlpbjnjbaaGreatSzTm
import Derived.Lib.QuietBelow
namespace Go.Proofs.YtgpefnlpbjnjbaaGreat
open Go.ChangeShapes Go.WideShapes Go.ChangeAt Go.RowKit
set_option linter.unusedVariables false

theorem lens_Tm : ∀ ts : List Tm, D.lens (Tm.ds ts) = ts.length * 8
  | [] => rfl
  | t :: ts => by simp [Tm.ds, D.lens, Tm.d_len, lens_Tm ts]; omega
def MkTmW (N : Nat) : Prop := ∀ (ts : List Tm) (a : Option Addr) (c : Nat) (F : List Nat) (k : Nat) (w : World), Tm.bulks ts < N → ts.length ≤ 9223372036854775807 → k + D.nums (Tm.ds ts) ≤ 1099511627776 → Rd w (.list (Tm.ds ts)) [.slice a ts.length c] F → Owned w 0 F → Calls Tryz.prog 60 #[.slice a ts.length c, .int .i64 k] w (MkPost w (.slice a ts.length c) F k (Tm.ds ts))
set_option maxRecDepth 100000 in
set_option maxHeartbeats 4000000 in
theorem markTms_step (N : Nat) (ih : MkTmW N) : MkTmW (N + 1) := by
  intro ts a c F k w hN hlen hk hr ho
  have hdl := Tm.ds_length ts
  by_cases hne : ts = []
  case pos =>
    have HP := hid (show MkPost w (.slice a ts.length c) F k (Tm.ds ts) (.returned (.int .i64 k)) w by
      subst hne
      exact ⟨by simp [Tm.ds, D.nums], by simpa [Tm.ds, D.marks] using hr, Mk.refl _ _⟩)
    have hz : ts.length = 0 := by rw [hne]; rfl
    clear hr ho hk hdl hne ih hN
    go_enter Tryz.func60, Tryz.ntmps60
    go_wp2_with fail
    go_loopw [1, 5] (fun q i wr => ∃ (j : Nat), j = 0 ∧ i = .int .i64 j ∧ q = .int .i64 k ∧ w = wr) (fun _ i _ => 0)
    case atStart => exact ⟨0, rfl, rfl, rfl, rfl⟩
    case round =>
      obtain ⟨j, hj, rfl, rfl, rfl⟩ := hrel
      have hlt : ¬ j < ts.length := by omega
      go_wp2_with fail
      go_ret
      exact HP.out
  case neg =>
  have hdne : Tm.ds ts ≠ [] := fun e => hne (List.length_eq_zero_iff.1 (by rw [← hdl, e]; rfl))
  obtain ⟨a', cap', e, h2, h3, h4⟩ := hr.list_inv
  simp only [List.cons.injEq, Value.slice.injEq, and_true] at e
  obtain ⟨rfl, -, rfl⟩ := e
  rcases h4 with ⟨h, _⟩ | ⟨b, o, xs, F', _, rfl, rfl, hbl, hx, hr'⟩
  · exact absurd h hdne
  have HRW := hid (RowMk.start (k := k) hx hr' ho)
  have HDN := hid (fun p W (h : RowMk k (D.flats (Tm.ds ts)) F' b o p W) (hp : p = (D.flats (Tm.ds ts)).length) => h.done hp hdl.symm hdne (by omega) h3)
  have HFL := hid (show (D.flats (Tm.ds ts)).length = ts.length * 8 by rw [D.flats_length]; exact lens_Tm ts)
  have HNU := hid (D.flats_num (Tm.ds ts))
  have HLL := hid (D.flats_leaf (Tm.ds ts))
  have HGT := hid (fun j i d x h1 h2 => D.flats_get (m := 8) (Tm.ds ts) j i d x (Tm.ds_len ts) h1 h2)
  have HGE := hid (Tm.ds_get ts)
  generalize hL : D.flats (Tm.ds ts) = L at HRW HDN HFL HNU HLL HGT
  have HK := hid hk
  have HNE := hid hne
  have IH := hid ih
  have HN := hid hN
  clear hr ho hk hdl hne hdne hx hr' hL h2 hbl ih hN
  go_enter Tryz.func60, Tryz.ntmps60
  go_wp2_with fail
  go_loopw [1, 5] (fun q i wr => ∃ (j kk : Nat), j ≤ ts.length ∧ i = .int .i64 j ∧ q = .int .i64 kk ∧ Hid (k + D.nums (L.take (j * 8)) = kk) ∧ Hid (RowMk k L F' b o (j * 8) wr) ∧ Hid (Mk (b :: F') w wr)) (fun _ i _ => ts.length - (intOf i).toNat)
  case atStart => exact ⟨0, k, by omega, rfl, rfl, by simp [D.nums, Hid], by simpa [Hid] using HRW.out, Mk.refl _ _⟩
  case round =>
    obtain ⟨j, kk, hj, rfl, rfl, HE0, HS0, HM0⟩ := hrel
    have hkk : kk ≤ 1099511627776 := by have h1 := HE0.out; have h2 := D.nums_take_le L (j * 8); have h3 := HNU.out; have h4 := HK.out; omega
    by_cases hlt : j < ts.length
    case neg =>
      have HP := hid (show MkPost w (.slice (some ⟨b, o, none⟩) ts.length c) (b :: F') k (Tm.ds ts) (.returned (.int .i64 kk)) wr by
        obtain rfl : j = ts.length := by omega
        refine ⟨?_, HDN.out _ _ HS0.out HFL.out.symm, HM0.out⟩
        have h1 := HE0.out
        rw [← HFL.out, List.take_length, HNU.out] at h1
        rw [h1])
      go_wp2_with fail
      go_ret
      exact HP.out
    case pos =>
      obtain ⟨t, ht⟩ : ∃ t, ts[j]? = some t := ⟨_, List.getElem?_eq_getElem hlt⟩
      obtain ⟨k3, u3, n3, ⟨tk3, tn3, tks3⟩, ns3, ks3⟩ := t
      have hL0 : L[j * 8]? = some (.int k3) := HGT.out j 0 (Tm.d (Tm.mk k3 u3 n3 (Ty.mk tk3 tn3 tks3) ns3 ks3)) (.int k3) (by rw [HGE.out, ht]; rfl) (by simp [Tm.d, Ty.d, D.flat, D.flats])
      have hL1 : L[j * 8 + 1]? = some (.int u3) := HGT.out j 1 (Tm.d (Tm.mk k3 u3 n3 (Ty.mk tk3 tn3 tks3) ns3 ks3)) (.int u3) (by rw [HGE.out, ht]; rfl) (by simp [Tm.d, Ty.d, D.flat, D.flats])
      have hL2 : L[j * 8 + 2]? = some (.str n3) := HGT.out j 2 (Tm.d (Tm.mk k3 u3 n3 (Ty.mk tk3 tn3 tks3) ns3 ks3)) (.str n3) (by rw [HGE.out, ht]; rfl) (by simp [Tm.d, Ty.d, D.flat, D.flats])
      have hL3 : L[j * 8 + 3]? = some (.int tk3) := HGT.out j 3 (Tm.d (Tm.mk k3 u3 n3 (Ty.mk tk3 tn3 tks3) ns3 ks3)) (.int tk3) (by rw [HGE.out, ht]; rfl) (by simp [Tm.d, Ty.d, D.flat, D.flats])
      have hL4 : L[j * 8 + 4]? = some (.str tn3) := HGT.out j 4 (Tm.d (Tm.mk k3 u3 n3 (Ty.mk tk3 tn3 tks3) ns3 ks3)) (.str tn3) (by rw [HGE.out, ht]; rfl) (by simp [Tm.d, Ty.d, D.flat, D.flats])
      have hL5 : L[j * 8 + 5]? = some (.list (Ty.ds tks3)) := HGT.out j 5 (Tm.d (Tm.mk k3 u3 n3 (Ty.mk tk3 tn3 tks3) ns3 ks3)) (.list (Ty.ds tks3)) (by rw [HGE.out, ht]; rfl) (by simp [Tm.d, Ty.d, D.flat, D.flats])
      have hL6 : L[j * 8 + 6]? = some (.list (Sr.ds ns3)) := HGT.out j 6 (Tm.d (Tm.mk k3 u3 n3 (Ty.mk tk3 tn3 tks3) ns3 ks3)) (.list (Sr.ds ns3)) (by rw [HGE.out, ht]; rfl) (by simp [Tm.d, Ty.d, D.flat, D.flats])
      have hL7 : L[j * 8 + 7]? = some (.list (Tm.ds ks3)) := HGT.out j 7 (Tm.d (Tm.mk k3 u3 n3 (Ty.mk tk3 tn3 tks3) ns3 ks3)) (.list (Tm.ds ks3)) (by rw [HGE.out, ht]; rfl) (by simp [Tm.d, Ty.d, D.flat, D.flats])
      obtain ⟨v0, G0, c0, z0, r0⟩ := HS0.out.peek HLL.out (j * 8) (by omega) hL0
      have c0' : wr.cell? ⟨b, o + j * 8, none⟩ = some v0 := c0
      have z0' : wr.frozen? ⟨b, o + j * 8, none⟩ = false := z0
      obtain ⟨v1, G1, c1, z1, r1⟩ := HS0.out.peek HLL.out (j * 8 + 1) (by omega) hL1
      have c1' : wr.cell? ⟨b, o + j * 8 + 1, none⟩ = some v1 := c1
      have z1' : wr.frozen? ⟨b, o + j * 8 + 1, none⟩ = false := z1
      have hv0 : ∀ W, Rd W (D.mark (k + D.nums (L.take (j * 8))) (.int k3)) [.int .i64 ((kk : Int))] [] := fun W => by rw [HE0.out]; have := Rd.int_mk (w := W) (n := ((kk : Nat) : Int)) (by omega) (by omega); simpa [D.mark] using this
      have S1 : Hid (RowMk k L F' b o (j * 8 + 1) _) := hid ((HS0.out.scalar HLL.out hL0 Rd.int_sc).2.2 _ hv0)
      have M1 := hid (HM0.out.trans (Mk.set (o := o + (j * 8)) (.int .i64 ((kk : Int))) (List.mem_cons_self)))
      have E1 := hid (show k + D.nums (L.take (j * 8 + 1)) = kk + 1 by have h1 : D.nums (L.take (j * 8 + 1)) = _ := D.nums_take L _ _ hL0; have h2 := HE0.out; have h3 : D.num (.int k3) = 1 := rfl; omega)
      have hb1 : kk + 1 ≤ 1099511627776 := by have h1 := E1.out; have h2 := D.nums_take_le L (j * 8 + 1); have h3 := HNU.out; have h4 := HK.out; omega
      have hv1 : ∀ W, Rd W (D.mark (k + D.nums (L.take (j * 8 + 1))) (.int u3)) [.int .i64 ((kk : Int) + 1)] [] := fun W => by rw [E1.out]; have := Rd.int_mk (w := W) (n := ((kk + 1 : Nat) : Int)) (by omega) (by omega); simpa [D.mark] using this
      have S2 : Hid (RowMk k L F' b o (j * 8 + 2) _) := hid ((S1.out.scalar HLL.out hL1 Rd.int_sc).2.2 _ hv1)
      have M2 := hid (M1.out.trans (Mk.set (o := o + (j * 8 + 1)) (.int .i64 ((kk : Int) + 1)) (List.mem_cons_self)))
      have E2 := hid (show k + D.nums (L.take (j * 8 + 2)) = kk + 1 + 1 by have h1 : D.nums (L.take (j * 8 + 2)) = _ := D.nums_take L _ _ hL1; have h2 := E1.out; have h3 : D.num (.int u3) = 1 := rfl; omega)
      have hb2 : kk + 1 + 1 ≤ 1099511627776 := by have h1 := E2.out; have h2 := D.nums_take_le L (j * 8 + 2); have h3 := HNU.out; have h4 := HK.out; omega
      have hT2 := fun W => mark_Text (kk + 1 + 1) (by omega) W
      rw [show ((kk + 1 + 1 : Nat) : Int) = (kk : Int) + 1 + 1 from by omega] at hT2
      have HT2 := hid hT2
      clear hT2
      go_wp2_with fail
      refine (HT2.out _).mono ?_
      rintro e u2 ⟨rfl, hbb⟩
      have T2 := hid (S2.out.below hbb)
      have N2 := hid (M2.out.trans (Mk.of_below hbb))
      clear hbb c0' z0' c1' z1'
      obtain ⟨v2, G2, c2, z2, r2⟩ := T2.out.peek HLL.out (j * 8 + 2) (by omega) hL2
      have c2' : u2.cell? ⟨b, o + j * 8 + 2, none⟩ = some v2 := c2
      have z2' : u2.frozen? ⟨b, o + j * 8 + 2, none⟩ = false := z2
      obtain ⟨v3, G3, c3, z3, r3⟩ := T2.out.peek HLL.out (j * 8 + 3) (by omega) hL3
      have c3' : u2.cell? ⟨b, o + j * 8 + 3, none⟩ = some v3 := c3
      have z3' : u2.frozen? ⟨b, o + j * 8 + 3, none⟩ = false := z3
      have hv2 : ∀ W, Rd W (D.mark (k + D.nums (L.take (j * 8 + 2))) (.str n3)) [.string (mtxt (kk + 1 + 1))] [] := fun W => by rw [E2.out]; have := Rd.str_mk (w := W) (s := mtxt (kk + 1 + 1)) (by have := mtxt_size (kk + 1 + 1); omega); simpa [D.mark] using this
      have S3 : Hid (RowMk k L F' b o (j * 8 + 3) _) := hid ((T2.out.scalar HLL.out hL2 Rd.str_sc).2.2 _ hv2)
      have M3 := hid (N2.out.trans (Mk.set (o := o + (j * 8 + 2)) (.string (mtxt (kk + 1 + 1))) (List.mem_cons_self)))
      have E3 := hid (show k + D.nums (L.take (j * 8 + 3)) = kk + 1 + 1 + 1 by have h1 : D.nums (L.take (j * 8 + 3)) = _ := D.nums_take L _ _ hL2; have h2 := E2.out; have h3 : D.num (.str n3) = 1 := rfl; omega)
      have hb3 : kk + 1 + 1 + 1 ≤ 1099511627776 := by have h1 := E3.out; have h2 := D.nums_take_le L (j * 8 + 3); have h3 := HNU.out; have h4 := HK.out; omega
      have hv3 : ∀ W, Rd W (D.mark (k + D.nums (L.take (j * 8 + 3))) (.int tk3)) [.int .i64 ((kk : Int) + 1 + 1 + 1)] [] := fun W => by rw [E3.out]; have := Rd.int_mk (w := W) (n := ((kk + 1 + 1 + 1 : Nat) : Int)) (by omega) (by omega); simpa [D.mark] using this
      have S4 : Hid (RowMk k L F' b o (j * 8 + 4) _) := hid ((S3.out.scalar HLL.out hL3 Rd.int_sc).2.2 _ hv3)
      have M4 := hid (M3.out.trans (Mk.set (o := o + (j * 8 + 3)) (.int .i64 ((kk : Int) + 1 + 1 + 1)) (List.mem_cons_self)))
      have E4 := hid (show k + D.nums (L.take (j * 8 + 4)) = kk + 1 + 1 + 1 + 1 by have h1 : D.nums (L.take (j * 8 + 4)) = _ := D.nums_take L _ _ hL3; have h2 := E3.out; have h3 : D.num (.int tk3) = 1 := rfl; omega)
      have hb4 : kk + 1 + 1 + 1 + 1 ≤ 1099511627776 := by have h1 := E4.out; have h2 := D.nums_take_le L (j * 8 + 4); have h3 := HNU.out; have h4 := HK.out; omega
      have hT4 := fun W => mark_Text (kk + 1 + 1 + 1 + 1) (by omega) W
      rw [show ((kk + 1 + 1 + 1 + 1 : Nat) : Int) = (kk : Int) + 1 + 1 + 1 + 1 from by omega] at hT4
      have HT4 := hid hT4
      clear hT4
      go_wp2_with fail
      refine (HT4.out _).mono ?_
      rintro e u4 ⟨rfl, hbb⟩
      have T4 := hid (S4.out.below hbb)
      have N4 := hid (M4.out.trans (Mk.of_below hbb))
      clear hbb c2' z2' c3' z3'
      obtain ⟨v4, G4, c4, z4, r4⟩ := T4.out.peek HLL.out (j * 8 + 4) (by omega) hL4
      have c4' : u4.cell? ⟨b, o + j * 8 + 4, none⟩ = some v4 := c4
      have z4' : u4.frozen? ⟨b, o + j * 8 + 4, none⟩ = false := z4
      have hv4 : ∀ W, Rd W (D.mark (k + D.nums (L.take (j * 8 + 4))) (.str tn3)) [.string (mtxt (kk + 1 + 1 + 1 + 1))] [] := fun W => by rw [E4.out]; have := Rd.str_mk (w := W) (s := mtxt (kk + 1 + 1 + 1 + 1)) (by have := mtxt_size (kk + 1 + 1 + 1 + 1); omega); simpa [D.mark] using this
      have S5 : Hid (RowMk k L F' b o (j * 8 + 5) _) := hid ((T4.out.scalar HLL.out hL4 Rd.str_sc).2.2 _ hv4)
      have M5 := hid (N4.out.trans (Mk.set (o := o + (j * 8 + 4)) (.string (mtxt (kk + 1 + 1 + 1 + 1))) (List.mem_cons_self)))
      have E5 := hid (show k + D.nums (L.take (j * 8 + 5)) = kk + 1 + 1 + 1 + 1 + 1 by have h1 : D.nums (L.take (j * 8 + 5)) = _ := D.nums_take L _ _ hL4; have h2 := E4.out; have h3 : D.num (.str tn3) = 1 := rfl; omega)
      have hb5 : kk + 1 + 1 + 1 + 1 + 1 ≤ 1099511627776 := by have h1 := E5.out; have h2 := D.nums_take_le L (j * 8 + 5); have h3 := HNU.out; have h4 := HK.out; omega
      obtain ⟨y5, G5', c5'', r5', o5', s5', set5⟩ := S5.out.list HLL.out hL5
      obtain ⟨a5, n5, ee5, h25, h35, -⟩ := r5'.list_inv
      simp only [List.cons.injEq, and_true, Ty.ds_length] at ee5 h25
      obtain rfl := ee5
      have c5' : u4.cell? ⟨b, o + j * 8 + 5, none⟩ = some (.slice a5 tks3.length n5) := by have h := c5''; rw [cell_set_ne (by omega)] at h; exact h
      obtain ⟨kx5, hkx5⟩ : ∃ kx, kx = kk + 1 + 1 + 1 + 1 + 1 + D.nums (Ty.ds tks3) := ⟨_, rfl⟩
      have E6 := hid (show k + D.nums (L.take (j * 8 + 6)) = kx5 by have h1 : D.nums (L.take (j * 8 + 6)) = _ := D.nums_take L _ _ hL5; have h2 := E5.out; have h3 : D.num (.list (Ty.ds tks3)) = D.nums (Ty.ds tks3) := (by rw [D.num]); omega)
      have hb6 : kx5 ≤ 1099511627776 := by have h1 := E6.out; have h2 := D.nums_take_le L (j * 8 + 6); have h3 := HNU.out; have h4 := HK.out; omega
      have hc5 := markTys tks3 a5 n5 G5' (kk + 1 + 1 + 1 + 1 + 1) _ (by omega) (by omega) r5' o5'
      unfold MkPost at hc5
      rw [← hkx5] at hc5
      rw [show ((kk + 1 + 1 + 1 + 1 + 1 : Nat) : Int) = (kk : Int) + 1 + 1 + 1 + 1 + 1 from by omega] at hc5
      have HKX5 := hid hkx5
      clear hkx5
      have HC5 := hid hc5
      have HST5 := hid set5
      rw [E5.out] at HST5
      have HSU5 := hid s5'
      clear hc5 set5 s5' r5' o5' c5''
      go_wp2_with fail
      refine HC5.out.mono ?_
      rintro e u5 ⟨rfl, hrd, hmk⟩
      have S6 : Hid (RowMk k L F' b o (j * 8 + 6) _) := hid (HST5.out _ hmk hrd)
      have M6 := hid (M5.out.trans (hmk.mono fun x hx => List.mem_cons_of_mem _ (HSU5.out x hx)))
      clear hmk hrd HC5 HST5 c4' z4' c5'
      obtain ⟨y6, G6', c6'', r6', o6', s6', set6⟩ := S6.out.list HLL.out hL6
      obtain ⟨a6, n6, ee6, h26, h36, -⟩ := r6'.list_inv
      simp only [List.cons.injEq, and_true, Sr.ds_length] at ee6 h26
      obtain rfl := ee6
      have c6' : u5.cell? ⟨b, o + j * 8 + 6, none⟩ = some (.slice a6 ns3.length n6) := by have h := c6''; exact h
      obtain ⟨kx6, hkx6⟩ : ∃ kx, kx = kx5 + D.nums (Sr.ds ns3) := ⟨_, rfl⟩
      have E7 := hid (show k + D.nums (L.take (j * 8 + 7)) = kx6 by have h1 : D.nums (L.take (j * 8 + 7)) = _ := D.nums_take L _ _ hL6; have h2 := E6.out; have h3 : D.num (.list (Sr.ds ns3)) = D.nums (Sr.ds ns3) := (by rw [D.num]); omega)
      have hb7 : kx6 ≤ 1099511627776 := by have h1 := E7.out; have h2 := D.nums_take_le L (j * 8 + 7); have h3 := HNU.out; have h4 := HK.out; omega
      have hc6 := markSrs ns3 a6 n6 G6' (kx5) _ (by omega) (by omega) r6' o6'
      unfold MkPost at hc6
      rw [← hkx6] at hc6
      have HKX6 := hid hkx6
      clear hkx6
      have HC6 := hid hc6
      have HST6 := hid set6
      rw [E6.out] at HST6
      have HSU6 := hid s6'
      clear hc6 set6 s6' r6' o6' c6''
      go_wp2_with fail
      refine HC6.out.mono ?_
      rintro e u6 ⟨rfl, hrd, hmk⟩
      have S7 : Hid (RowMk k L F' b o (j * 8 + 7) _) := hid (HST6.out _ hmk hrd)
      have M7 := hid (M6.out.trans (hmk.mono fun x hx => List.mem_cons_of_mem _ (HSU6.out x hx)))
      clear hmk hrd HC6 HST6 c6'
      obtain ⟨y7, G7', c7'', r7', o7', s7', set7⟩ := S7.out.list HLL.out hL7
      obtain ⟨a7, n7, ee7, h27, h37, -⟩ := r7'.list_inv
      simp only [List.cons.injEq, and_true, Tm.ds_length] at ee7 h27
      obtain rfl := ee7
      have c7' : u6.cell? ⟨b, o + j * 8 + 7, none⟩ = some (.slice a7 ks3.length n7) := by have h := c7''; exact h
      obtain ⟨kx7, hkx7⟩ : ∃ kx, kx = kx6 + D.nums (Tm.ds ks3) := ⟨_, rfl⟩
      have E8 := hid (show k + D.nums (L.take (j * 8 + 8)) = kx7 by have h1 : D.nums (L.take (j * 8 + 8)) = _ := D.nums_take L _ _ hL7; have h2 := E7.out; have h3 : D.num (.list (Tm.ds ks3)) = D.nums (Tm.ds ks3) := (by rw [D.num]); omega)
      have hb8 : kx7 ≤ 1099511627776 := by have h1 := E8.out; have h2 := D.nums_take_le L (j * 8 + 8); have h3 := HNU.out; have h4 := HK.out; omega
      have hc7 := IH.out ks3 a7 n7 G7' (kx6) _ (by have h1 := Tm.bulk_get ts j _ ht; have h2 := HN.out; have h3 : Tm.bulks ks3 ≤ Tm.bulk (Tm.mk k3 u3 n3 (Ty.mk tk3 tn3 tks3) ns3 ks3) := (by simp only [Tm.bulk]; omega); omega) (by omega) (by omega) r7' o7'
      unfold MkPost at hc7
      rw [← hkx7] at hc7
      have HKX7 := hid hkx7
      clear hkx7
      have HC7 := hid hc7
      have HST7 := hid set7
      rw [E7.out] at HST7
      have HSU7 := hid s7'
      clear hc7 set7 s7' r7' o7' c7''
      go_wp2_with fail
      refine HC7.out.mono ?_
      rintro e u7 ⟨rfl, hrd, hmk⟩
      have S8 : Hid (RowMk k L F' b o (j * 8 + 8) _) := hid (HST7.out _ hmk hrd)
      have M8 := hid (M7.out.trans (hmk.mono fun x hx => List.mem_cons_of_mem _ (HSU7.out x hx)))
      clear hmk hrd HC7 HST7 c7'
      go_wp2_with fail
      go_roundw
      case rel => exact ⟨j + 1, kx7, by omega, by go_num, by go_num, by rw [Nat.succ_mul]; exact E8, by rw [Nat.succ_mul]; exact S8, M8⟩
      case measure => simp [intOf]; omega
theorem markTms_all : ∀ N, MkTmW N
  | 0 => fun _ _ _ _ _ _ h => absurd h (by omega)
  | N + 1 => markTms_step N (markTms_all N)
theorem markTms (ts : List Tm) (a : Option Addr) (c : Nat) (F : List Nat) (k : Nat) (w : World) (hlen : ts.length ≤ 9223372036854775807) (hk : k + D.nums (Tm.ds ts) ≤ 1099511627776) (hr : Rd w (.list (Tm.ds ts)) [.slice a ts.length c] F) (ho : Owned w 0 F) :
    Calls Tryz.prog 60 #[.slice a ts.length c, .int .i64 k] w (MkPost w (.slice a ts.length c) F k (Tm.ds ts)) :=
  markTms_all (Tm.bulks ts + 1) ts a c F k w (by omega) hlen hk hr ho
end Go.Proofs.YtgpefnlpbjnjbaaGreat
