/- Walks: marks in tokens. -/
import Derived.Test.YtikhofcjkcbpbaaDoorMkTxt
import Derived.Test.YtikhofcjkcbpbaaDoorDTk
import Derived.Lib.QuietBelow
namespace Go.Proofs.YtikhofcjkcbpbaaDoor
open Go.ChangeShapes Go.WideShapes Go.ChangeAt Go.RowKit
set_option linter.unusedVariables false

theorem lens_Tk : ∀ ts : List Tk, D.lens (Tk.ds ts) = ts.length * 3
  | [] => rfl
  | t :: ts => by simp [Tk.ds, D.lens, Tk.d_len, lens_Tk ts]; omega
set_option maxRecDepth 100000 in
set_option maxHeartbeats 4000000 in
theorem markTks (ts : List Tk) (a : Option Addr) (c : Nat) (F : List Nat) (k : Nat) (w : World) (hlen : ts.length ≤ 9223372036854775807) (hk : k + D.nums (Tk.ds ts) ≤ 1099511627776) (hr : Rd w (.list (Tk.ds ts)) [.slice a ts.length c] F) (ho : Owned w 0 F) :
    Calls Tryd.prog 19 #[.slice a ts.length c, .int .i64 k] w (MkPost w (.slice a ts.length c) F k (Tk.ds ts)) := by
  have hdl := Tk.ds_length ts
  by_cases hne : ts = []
  case pos =>
    have HP := hid (show MkPost w (.slice a ts.length c) F k (Tk.ds ts) (.returned (.int .i64 k)) w by
      subst hne
      exact ⟨by simp [Tk.ds, D.nums], by simpa [Tk.ds, D.marks] using hr, Mk.refl _ _⟩)
    have hz : ts.length = 0 := by rw [hne]; rfl
    clear hr ho hk hdl hne
    go_enter Tryd.func19, Tryd.ntmps19
    go_wp2_with fail
    go_loopw [1, 5] (fun q i wr => ∃ (j : Nat), j = 0 ∧ i = .int .i64 j ∧ q = .int .i64 k ∧ w = wr) (fun _ i _ => 0)
    case atStart => exact ⟨0, rfl, rfl, rfl, rfl⟩
    case round =>
      obtain ⟨j, hj, rfl, rfl, rfl⟩ := hrel
      have hlt : ¬ j < ts.length := by omega
      go_wp2_with fail
      go_ret
      exact HP.out
  case neg =>
  have hdne : Tk.ds ts ≠ [] := fun e => hne (List.length_eq_zero_iff.1 (by rw [← hdl, e]; rfl))
  obtain ⟨a', cap', e, h2, h3, h4⟩ := hr.list_inv
  simp only [List.cons.injEq, Value.slice.injEq, and_true] at e
  obtain ⟨rfl, -, rfl⟩ := e
  rcases h4 with ⟨h, _⟩ | ⟨b, o, xs, F', _, rfl, rfl, hbl, hx, hr'⟩
  · exact absurd h hdne
  have HRW := hid (RowMk.start (k := k) hx hr' ho)
  have HDN := hid (fun p W (h : RowMk k (D.flats (Tk.ds ts)) F' b o p W) (hp : p = (D.flats (Tk.ds ts)).length) => h.done hp hdl.symm hdne (by omega) h3)
  have HFL := hid (show (D.flats (Tk.ds ts)).length = ts.length * 3 by rw [D.flats_length]; exact lens_Tk ts)
  have HNU := hid (D.flats_num (Tk.ds ts))
  have HLL := hid (D.flats_leaf (Tk.ds ts))
  have HGT := hid (fun j i d x h1 h2 => D.flats_get (m := 3) (Tk.ds ts) j i d x (Tk.ds_len ts) h1 h2)
  have HGE := hid (Tk.ds_get ts)
  generalize hL : D.flats (Tk.ds ts) = L at HRW HDN HFL HNU HLL HGT
  have HK := hid hk
  have HNE := hid hne
  clear hr ho hk hdl hne hdne hx hr' hL h2 hbl
  go_enter Tryd.func19, Tryd.ntmps19
  go_wp2_with fail
  go_loopw [1, 5] (fun q i wr => ∃ (j kk : Nat), j ≤ ts.length ∧ i = .int .i64 j ∧ q = .int .i64 kk ∧ Hid (k + D.nums (L.take (j * 3)) = kk) ∧ Hid (RowMk k L F' b o (j * 3) wr) ∧ Hid (Mk (b :: F') w wr)) (fun _ i _ => ts.length - (intOf i).toNat)
  case atStart => exact ⟨0, k, by omega, rfl, rfl, by simp [D.nums, Hid], by simpa [Hid] using HRW.out, Mk.refl _ _⟩
  case round =>
    obtain ⟨j, kk, hj, rfl, rfl, HE0, HS0, HM0⟩ := hrel
    have hkk : kk ≤ 1099511627776 := by have h1 := HE0.out; have h2 := D.nums_take_le L (j * 3); have h3 := HNU.out; have h4 := HK.out; omega
    by_cases hlt : j < ts.length
    case neg =>
      have HP := hid (show MkPost w (.slice (some ⟨b, o, none⟩) ts.length c) (b :: F') k (Tk.ds ts) (.returned (.int .i64 kk)) wr by
        obtain rfl : j = ts.length := by omega
        refine ⟨?_, HDN.out _ _ HS0.out HFL.out.symm, HM0.out⟩
        have h1 := HE0.out
        rw [← HFL.out, List.take_length, HNU.out] at h1
        rw [h1])
      go_wp2_with fail
      go_ret
      exact HP.out
    case pos =>
      obtain ⟨t, ht⟩ : ∃ t, ts[j]? = some t := ⟨_, List.getElem?_eq_getElem hlt⟩
      obtain ⟨k3, n3, a3⟩ := t
      have hL0 : L[j * 3]? = some (.int k3) := HGT.out j 0 (Tk.d (Tk.mk k3 n3 a3)) (.int k3) (by rw [HGE.out, ht]; rfl) (by simp [Tk.d, D.flat, D.flats])
      have hL1 : L[j * 3 + 1]? = some (.str n3) := HGT.out j 1 (Tk.d (Tk.mk k3 n3 a3)) (.str n3) (by rw [HGE.out, ht]; rfl) (by simp [Tk.d, D.flat, D.flats])
      have hL2 : L[j * 3 + 2]? = some (.int a3) := HGT.out j 2 (Tk.d (Tk.mk k3 n3 a3)) (.int a3) (by rw [HGE.out, ht]; rfl) (by simp [Tk.d, D.flat, D.flats])
      obtain ⟨v0, G0, c0, z0, r0⟩ := HS0.out.peek HLL.out (j * 3) (by omega) hL0
      have c0' : wr.cell? ⟨b, o + j * 3, none⟩ = some v0 := c0
      have z0' : wr.frozen? ⟨b, o + j * 3, none⟩ = false := z0
      have hv0 : ∀ W, Rd W (D.mark (k + D.nums (L.take (j * 3))) (.int k3)) [.int .i64 ((kk : Int))] [] := fun W => by rw [HE0.out]; have := Rd.int_mk (w := W) (n := ((kk : Nat) : Int)) (by omega) (by omega); simpa [D.mark] using this
      have S1 : Hid (RowMk k L F' b o (j * 3 + 1) _) := hid ((HS0.out.scalar HLL.out hL0 Rd.int_sc).2.2 _ hv0)
      have M1 := hid (HM0.out.trans (Mk.set (o := o + (j * 3)) (.int .i64 ((kk : Int))) (List.mem_cons_self)))
      have E1 := hid (show k + D.nums (L.take (j * 3 + 1)) = kk + 1 by have h1 : D.nums (L.take (j * 3 + 1)) = _ := D.nums_take L _ _ hL0; have h2 := HE0.out; have h3 : D.num (.int k3) = 1 := rfl; omega)
      have hb1 : kk + 1 ≤ 1099511627776 := by have h1 := E1.out; have h2 := D.nums_take_le L (j * 3 + 1); have h3 := HNU.out; have h4 := HK.out; omega
      have hT1 := fun W => mark_Text (kk + 1) (by omega) W
      rw [show ((kk + 1 : Nat) : Int) = (kk : Int) + 1 from by omega] at hT1
      have HT1 := hid hT1
      clear hT1
      go_wp2_with fail
      refine (HT1.out _).mono ?_
      rintro e u1 ⟨rfl, hbb⟩
      have T1 := hid (S1.out.below hbb)
      have N1 := hid (M1.out.trans (Mk.of_below hbb))
      clear hbb c0' z0'
      obtain ⟨v1, G1, c1, z1, r1⟩ := T1.out.peek HLL.out (j * 3 + 1) (by omega) hL1
      have c1' : u1.cell? ⟨b, o + j * 3 + 1, none⟩ = some v1 := c1
      have z1' : u1.frozen? ⟨b, o + j * 3 + 1, none⟩ = false := z1
      obtain ⟨v2, G2, c2, z2, r2⟩ := T1.out.peek HLL.out (j * 3 + 2) (by omega) hL2
      have c2' : u1.cell? ⟨b, o + j * 3 + 2, none⟩ = some v2 := c2
      have z2' : u1.frozen? ⟨b, o + j * 3 + 2, none⟩ = false := z2
      have hv1 : ∀ W, Rd W (D.mark (k + D.nums (L.take (j * 3 + 1))) (.str n3)) [.string (mtxt (kk + 1))] [] := fun W => by rw [E1.out]; have := Rd.str_mk (w := W) (s := mtxt (kk + 1)) (by have := mtxt_size (kk + 1); omega); simpa [D.mark] using this
      have S2 : Hid (RowMk k L F' b o (j * 3 + 2) _) := hid ((T1.out.scalar HLL.out hL1 Rd.str_sc).2.2 _ hv1)
      have M2 := hid (N1.out.trans (Mk.set (o := o + (j * 3 + 1)) (.string (mtxt (kk + 1))) (List.mem_cons_self)))
      have E2 := hid (show k + D.nums (L.take (j * 3 + 2)) = kk + 1 + 1 by have h1 : D.nums (L.take (j * 3 + 2)) = _ := D.nums_take L _ _ hL1; have h2 := E1.out; have h3 : D.num (.str n3) = 1 := rfl; omega)
      have hb2 : kk + 1 + 1 ≤ 1099511627776 := by have h1 := E2.out; have h2 := D.nums_take_le L (j * 3 + 2); have h3 := HNU.out; have h4 := HK.out; omega
      have hv2 : ∀ W, Rd W (D.mark (k + D.nums (L.take (j * 3 + 2))) (.int a3)) [.int .i64 ((kk : Int) + 1 + 1)] [] := fun W => by rw [E2.out]; have := Rd.int_mk (w := W) (n := ((kk + 1 + 1 : Nat) : Int)) (by omega) (by omega); simpa [D.mark] using this
      have S3 : Hid (RowMk k L F' b o (j * 3 + 3) _) := hid ((S2.out.scalar HLL.out hL2 Rd.int_sc).2.2 _ hv2)
      have M3 := hid (M2.out.trans (Mk.set (o := o + (j * 3 + 2)) (.int .i64 ((kk : Int) + 1 + 1)) (List.mem_cons_self)))
      have E3 := hid (show k + D.nums (L.take (j * 3 + 3)) = kk + 1 + 1 + 1 by have h1 : D.nums (L.take (j * 3 + 3)) = _ := D.nums_take L _ _ hL2; have h2 := E2.out; have h3 : D.num (.int a3) = 1 := rfl; omega)
      have hb3 : kk + 1 + 1 + 1 ≤ 1099511627776 := by have h1 := E3.out; have h2 := D.nums_take_le L (j * 3 + 3); have h3 := HNU.out; have h4 := HK.out; omega
      go_wp2_with fail
      go_roundw
      case rel => exact ⟨j + 1, kk + 1 + 1 + 1, by omega, by go_num, by go_num, by rw [Nat.succ_mul]; exact E3, by rw [Nat.succ_mul]; exact S3, M3⟩
      case measure => simp [intOf]; omega
end Go.Proofs.YtikhofcjkcbpbaaDoor
