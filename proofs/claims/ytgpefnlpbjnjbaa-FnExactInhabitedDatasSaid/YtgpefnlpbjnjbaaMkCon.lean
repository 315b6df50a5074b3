/- Walks: marks in constructors. -/
import Derived.Test.YtgpefnlpbjnjbaaMkTy
import Derived.Test.YtgpefnlpbjnjbaaMkVTy
import Derived.Test.YtgpefnlpbjnjbaaDCon
import Derived.Lib.QuietBelow
namespace Go.Proofs.Ytgpefnlpbjnjbaa
open Go.ChangeShapes Go.WideShapes Go.ChangeAt Go.RowKit
set_option linter.unusedVariables false

theorem lens_Con : ∀ ts : List Con, D.lens (Con.ds ts) = ts.length * 2
  | [] => rfl
  | t :: ts => by simp [Con.ds, D.lens, Con.d_len, lens_Con ts]; omega
set_option maxRecDepth 100000 in
set_option maxHeartbeats 4000000 in
theorem markCons (ts : List Con) (a : Option Addr) (c : Nat) (F : List Nat) (k : Nat) (w : World) (hlen : ts.length ≤ 9223372036854775807) (hk : k + D.nums (Con.ds ts) ≤ 1099511627776) (hr : Rd w (.list (Con.ds ts)) [.slice a ts.length c] F) (ho : Owned w 0 F) :
    Calls Try.prog 70 #[.slice a ts.length c, .int .i64 k] w (MkPost w (.slice a ts.length c) F k (Con.ds ts)) := by
  have hdl := Con.ds_length ts
  by_cases hne : ts = []
  case pos =>
    have HP := hid (show MkPost w (.slice a ts.length c) F k (Con.ds ts) (.returned (.int .i64 k)) w by
      subst hne
      exact ⟨by simp [Con.ds, D.nums], by simpa [Con.ds, D.marks] using hr, Mk.refl _ _⟩)
    have hz : ts.length = 0 := by rw [hne]; rfl
    clear hr ho hk hdl hne
    go_enter Try.func70, Try.ntmps70
    go_wp2_with fail
    go_loopw [1, 5] (fun q i wr => ∃ (j : Nat), j = 0 ∧ i = .int .i64 j ∧ q = .int .i64 k ∧ w = wr) (fun _ i _ => 0)
    case atStart => exact ⟨0, rfl, rfl, rfl, rfl⟩
    case round =>
      obtain ⟨j, hj, rfl, rfl, rfl⟩ := hrel
      have hlt : ¬ j < ts.length := by omega
      go_wp2_with fail
      go_ret
      exact HP.out
  case neg =>
  have hdne : Con.ds ts ≠ [] := fun e => hne (List.length_eq_zero_iff.1 (by rw [← hdl, e]; rfl))
  obtain ⟨a', cap', e, h2, h3, h4⟩ := hr.list_inv
  simp only [List.cons.injEq, Value.slice.injEq, and_true] at e
  obtain ⟨rfl, -, rfl⟩ := e
  rcases h4 with ⟨h, _⟩ | ⟨b, o, xs, F', _, rfl, rfl, hbl, hx, hr'⟩
  · exact absurd h hdne
  have HRW := hid (RowMk.start (k := k) hx hr' ho)
  have HDN := hid (fun p W (h : RowMk k (D.flats (Con.ds ts)) F' b o p W) (hp : p = (D.flats (Con.ds ts)).length) => h.done hp hdl.symm hdne (by omega) h3)
  have HFL := hid (show (D.flats (Con.ds ts)).length = ts.length * 2 by rw [D.flats_length]; exact lens_Con ts)
  have HNU := hid (D.flats_num (Con.ds ts))
  have HLL := hid (D.flats_leaf (Con.ds ts))
  have HGT := hid (fun j i d x h1 h2 => D.flats_get (m := 2) (Con.ds ts) j i d x (Con.ds_len ts) h1 h2)
  have HGE := hid (Con.ds_get ts)
  generalize hL : D.flats (Con.ds ts) = L at HRW HDN HFL HNU HLL HGT
  have HK := hid hk
  have HNE := hid hne
  clear hr ho hk hdl hne hdne hx hr' hL h2 hbl
  go_enter Try.func70, Try.ntmps70
  go_wp2_with fail
  go_loopw [1, 5] (fun q i wr => ∃ (j kk : Nat), j ≤ ts.length ∧ i = .int .i64 j ∧ q = .int .i64 kk ∧ Hid (k + D.nums (L.take (j * 2)) = kk) ∧ Hid (RowMk k L F' b o (j * 2) wr) ∧ Hid (Mk (b :: F') w wr)) (fun _ i _ => ts.length - (intOf i).toNat)
  case atStart => exact ⟨0, k, by omega, rfl, rfl, by simp [D.nums, Hid], by simpa [Hid] using HRW.out, Mk.refl _ _⟩
  case round =>
    obtain ⟨j, kk, hj, rfl, rfl, HE0, HS0, HM0⟩ := hrel
    have hkk : kk ≤ 1099511627776 := by have h1 := HE0.out; have h2 := D.nums_take_le L (j * 2); have h3 := HNU.out; have h4 := HK.out; omega
    by_cases hlt : j < ts.length
    case neg =>
      have HP := hid (show MkPost w (.slice (some ⟨b, o, none⟩) ts.length c) (b :: F') k (Con.ds ts) (.returned (.int .i64 kk)) wr by
        obtain rfl : j = ts.length := by omega
        refine ⟨?_, HDN.out _ _ HS0.out HFL.out.symm, HM0.out⟩
        have h1 := HE0.out
        rw [← HFL.out, List.take_length, HNU.out] at h1
        rw [h1])
      go_wp2_with fail
      go_ret
      exact HP.out
    case pos =>
      obtain ⟨t, ht⟩ : ∃ t, ts[j]? = some t := ⟨_, List.getElem?_eq_getElem hlt⟩
      obtain ⟨n3, fs3⟩ := t
      have hL0 : L[j * 2]? = some (.str n3) := HGT.out j 0 (Con.d (Con.mk n3 fs3)) (.str n3) (by rw [HGE.out, ht]; rfl) (by simp [Con.d, D.flat, D.flats])
      have hL1 : L[j * 2 + 1]? = some (.list (Ty.ds fs3)) := HGT.out j 1 (Con.d (Con.mk n3 fs3)) (.list (Ty.ds fs3)) (by rw [HGE.out, ht]; rfl) (by simp [Con.d, D.flat, D.flats])
      have hT0 := fun W => mark_Text (kk) (by omega) W
      have HT0 := hid hT0
      clear hT0
      go_wp2_with fail
      refine (HT0.out _).mono ?_
      rintro e u0 ⟨rfl, hbb⟩
      have T0 := hid (HS0.out.below hbb)
      have N0 := hid (HM0.out.trans (Mk.of_below hbb))
      clear hbb
      obtain ⟨v0, G0, c0, z0, r0⟩ := T0.out.peek HLL.out (j * 2) (by omega) hL0
      have c0' : u0.cell? ⟨b, o + j * 2, none⟩ = some v0 := c0
      have z0' : u0.frozen? ⟨b, o + j * 2, none⟩ = false := z0
      have hv0 : ∀ W, Rd W (D.mark (k + D.nums (L.take (j * 2))) (.str n3)) [.string (mtxt (kk))] [] := fun W => by rw [HE0.out]; have := Rd.str_mk (w := W) (s := mtxt (kk)) (by have := mtxt_size (kk); omega); simpa [D.mark] using this
      have S1 : Hid (RowMk k L F' b o (j * 2 + 1) _) := hid ((T0.out.scalar HLL.out hL0 Rd.str_sc).2.2 _ hv0)
      have M1 := hid (N0.out.trans (Mk.set (o := o + (j * 2)) (.string (mtxt (kk))) (List.mem_cons_self)))
      have E1 := hid (show k + D.nums (L.take (j * 2 + 1)) = kk + 1 by have h1 : D.nums (L.take (j * 2 + 1)) = _ := D.nums_take L _ _ hL0; have h2 := HE0.out; have h3 : D.num (.str n3) = 1 := rfl; omega)
      have hb1 : kk + 1 ≤ 1099511627776 := by have h1 := E1.out; have h2 := D.nums_take_le L (j * 2 + 1); have h3 := HNU.out; have h4 := HK.out; omega
      obtain ⟨y1, G1', c1'', r1', o1', s1', set1⟩ := S1.out.list HLL.out hL1
      obtain ⟨a1, n1, ee1, h21, h31, -⟩ := r1'.list_inv
      simp only [List.cons.injEq, and_true, Ty.ds_length] at ee1 h21
      obtain rfl := ee1
      have c1' : u0.cell? ⟨b, o + j * 2 + 1, none⟩ = some (.slice a1 fs3.length n1) := by have h := c1''; rw [cell_set_ne (by omega)] at h; exact h
      obtain ⟨kx1, hkx1⟩ : ∃ kx, kx = kk + 1 + D.nums (Ty.ds fs3) := ⟨_, rfl⟩
      have E2 := hid (show k + D.nums (L.take (j * 2 + 2)) = kx1 by have h1 : D.nums (L.take (j * 2 + 2)) = _ := D.nums_take L _ _ hL1; have h2 := E1.out; have h3 : D.num (.list (Ty.ds fs3)) = D.nums (Ty.ds fs3) := (by rw [D.num]); omega)
      have hb2 : kx1 ≤ 1099511627776 := by have h1 := E2.out; have h2 := D.nums_take_le L (j * 2 + 2); have h3 := HNU.out; have h4 := HK.out; omega
      have hc1 := markTys fs3 a1 n1 G1' (kk + 1) _ (by omega) (by omega) r1' o1'
      unfold MkPost at hc1
      rw [← hkx1] at hc1
      rw [show ((kk + 1 : Nat) : Int) = (kk : Int) + 1 from by omega] at hc1
      have HKX1 := hid hkx1
      clear hkx1
      have HC1 := hid hc1
      have HST1 := hid set1
      rw [E1.out] at HST1
      have HSU1 := hid s1'
      clear hc1 set1 s1' r1' o1' c1''
      go_wp2_with fail
      refine HC1.out.mono ?_
      rintro e u1 ⟨rfl, hrd, hmk⟩
      have S2 : Hid (RowMk k L F' b o (j * 2 + 2) _) := hid (HST1.out _ hmk hrd)
      have M2 := hid (M1.out.trans (hmk.mono fun x hx => List.mem_cons_of_mem _ (HSU1.out x hx)))
      clear hmk hrd HC1 HST1 c0' z0' c1'
      go_wp2_with fail
      go_roundw
      case rel => exact ⟨j + 1, kx1, by omega, by go_num, by go_num, by rw [Nat.succ_mul]; exact E2, by rw [Nat.succ_mul]; exact S2, M2⟩
      case measure => simp [intOf]; omega
theorem Con.num_le : ∀ t : Con, D.num (Con.d t) ≤ 2 + 2 * Con.bulk t
  | .mk n fs => by
    have h_fs := Ty.nums_le fs
    simp only [Con.d, D.num, D.nums, Con.bulk] at *
    omega
theorem Con.nums_le : ∀ ts : List Con, D.nums (Con.ds ts) ≤ 2 * Con.bulks ts
  | [] => by simp [Con.ds, D.nums]
  | t :: ts => by have h1 := Con.num_le t; have h2 := Con.nums_le ts; simp only [Con.ds, D.nums, Con.bulks]; omega
end Go.Proofs.Ytgpefnlpbjnjbaa
