/- Walks: marks in lists of integers and of strings. -/
import Derived.Test.YtgpefnlpbjnjbaaGreatMkTxt
import Derived.Lib.QuietBelow
namespace Go.Proofs.YtgpefnlpbjnjbaaGreat
open Go.ChangeShapes Go.WideShapes Go.ChangeAt Go.RowKit
set_option linter.unusedVariables false

theorem lens_In : ∀ ts : List Int, D.lens (In.ds ts) = ts.length
  | [] => rfl
  | t :: ts => by simp [In.ds, In.d, D.lens, D.len, lens_In ts]; omega
theorem dlen_In : ∀ (ts : List Int), ∀ y ∈ In.ds ts, y.len = 1
  | [], y, h => by simp [In.ds] at h
  | t :: ts, y, h => by
    simp only [In.ds, List.mem_cons] at h
    rcases h with rfl | h
    · rfl
    · exact dlen_In ts y h
set_option maxRecDepth 100000 in
set_option maxHeartbeats 4000000 in
theorem markIns (ts : List Int) (a : Option Addr) (c : Nat) (F : List Nat) (k : Nat) (w : World) (hlen : ts.length ≤ 9223372036854775807) (hk : k + D.nums (In.ds ts) ≤ 1099511627776) (hr : Rd w (.list (In.ds ts)) [.slice a ts.length c] F) (ho : Owned w 0 F) :
    Calls Tryz.prog 13 #[.slice a ts.length c, .int .i64 k] w (MkPost w (.slice a ts.length c) F k (In.ds ts)) := by
  have hdl := In.ds_length ts
  by_cases hne : ts = []
  case pos =>
    have HP := hid (show MkPost w (.slice a ts.length c) F k (In.ds ts) (.returned (.int .i64 k)) w by
      subst hne
      exact ⟨by simp [In.ds, D.nums], by simpa [In.ds, D.marks] using hr, Mk.refl _ _⟩)
    have hz : ts.length = 0 := by rw [hne]; rfl
    clear hr ho hk hdl hne
    go_enter Tryz.func13, Tryz.ntmps13
    go_wp2_with fail
    go_loopw [1, 5] (fun q i wr => ∃ (j : Nat), j = 0 ∧ i = .int .i64 j ∧ q = .int .i64 k ∧ w = wr) (fun _ i _ => 0)
    case atStart => exact ⟨0, rfl, rfl, rfl, rfl⟩
    case round =>
      obtain ⟨j, hj, rfl, rfl, rfl⟩ := hrel
      have hlt : ¬ j < ts.length := by omega
      go_wp2_with fail
      go_ret
      exact HP.out
  case neg =>
  have hdne : In.ds ts ≠ [] := fun e => hne (List.length_eq_zero_iff.1 (by rw [← hdl, e]; rfl))
  obtain ⟨a', cap', e, h2, h3, h4⟩ := hr.list_inv
  simp only [List.cons.injEq, Value.slice.injEq, and_true] at e
  obtain ⟨rfl, -, rfl⟩ := e
  rcases h4 with ⟨h, _⟩ | ⟨b, o, xs, F', _, rfl, rfl, hbl, hx, hr'⟩
  · exact absurd h hdne
  have HRW := hid (RowMk.start (k := k) hx hr' ho)
  have HDN := hid (fun p W (h : RowMk k (D.flats (In.ds ts)) F' b o p W) (hp : p = (D.flats (In.ds ts)).length) => h.done hp hdl.symm hdne (by omega) h3)
  have HFL := hid (show (D.flats (In.ds ts)).length = ts.length by rw [D.flats_length]; exact lens_In ts)
  have HNU := hid (D.flats_num (In.ds ts))
  have HLL := hid (D.flats_leaf (In.ds ts))
  have HGT := hid (fun j i d x h1 h2 => D.flats_get (m := 1) (In.ds ts) j i d x (fun y hy => dlen_In ts y hy) h1 h2)
  have HGE := hid (In.ds_get ts)
  generalize hL : D.flats (In.ds ts) = L at HRW HDN HFL HNU HLL HGT
  have HK := hid hk
  have HNE := hid hne
  clear hr ho hk hdl hne hdne hx hr' hL h2 hbl
  go_enter Tryz.func13, Tryz.ntmps13
  go_wp2_with fail
  go_loopw [1, 5] (fun q i wr => ∃ (j kk : Nat), j ≤ ts.length ∧ i = .int .i64 j ∧ q = .int .i64 kk ∧ Hid (k + D.nums (L.take (j)) = kk) ∧ Hid (RowMk k L F' b o (j) wr) ∧ Hid (Mk (b :: F') w wr)) (fun _ i _ => ts.length - (intOf i).toNat)
  case atStart => exact ⟨0, k, by omega, rfl, rfl, by simp [D.nums, Hid], by simpa [Hid] using HRW.out, Mk.refl _ _⟩
  case round =>
    obtain ⟨j, kk, hj, rfl, rfl, HE0, HS0, HM0⟩ := hrel
    have hkk : kk ≤ 1099511627776 := by have h1 := HE0.out; have h2 := D.nums_take_le L (j); have h3 := HNU.out; have h4 := HK.out; omega
    by_cases hlt : j < ts.length
    case neg =>
      have HP := hid (show MkPost w (.slice (some ⟨b, o, none⟩) ts.length c) (b :: F') k (In.ds ts) (.returned (.int .i64 kk)) wr by
        obtain rfl : j = ts.length := by omega
        refine ⟨?_, HDN.out _ _ HS0.out HFL.out.symm, HM0.out⟩
        have h1 := HE0.out
        rw [← HFL.out, List.take_length, HNU.out] at h1
        rw [h1])
      go_wp2_with fail
      go_ret
      exact HP.out
    case pos =>
      obtain ⟨t, ht⟩ : ∃ t, ts[j]? = some t := ⟨_, List.getElem?_eq_getElem hlt⟩
      obtain ⟨x3, rfl⟩ : ∃ x3, x3 = t := ⟨_, rfl⟩
      have hL0 : L[j]? = some (.int x3) := by have := HGT.out j 0 (.int x3) (.int x3) (by rw [HGE.out, ht]; rfl) rfl; simpa using this
      obtain ⟨v0, G0, c0, z0, r0⟩ := HS0.out.peek HLL.out j (by omega) hL0
      have c0' : wr.cell? ⟨b, o + j, none⟩ = some v0 := c0
      have z0' : wr.frozen? ⟨b, o + j, none⟩ = false := z0
      have hv0 : ∀ W, Rd W (D.mark (k + D.nums (L.take j)) (.int x3)) [.int .i64 ((kk : Int))] [] := fun W => by rw [HE0.out]; have := Rd.int_mk (w := W) (n := ((kk : Nat) : Int)) (by omega) (by omega); simpa [D.mark] using this
      have S1 : Hid (RowMk k L F' b o (j + 1) _) := hid ((HS0.out.scalar HLL.out hL0 Rd.int_sc).2.2 _ hv0)
      have M1 := hid (HM0.out.trans (Mk.set (o := o + j) (.int .i64 ((kk : Int))) (List.mem_cons_self)))
      have E1 := hid (show k + D.nums (L.take (j + 1)) = kk + 1 by have h1 : D.nums (L.take (j + 1)) = _ := D.nums_take L _ _ hL0; have h2 := HE0.out; have h3 : D.num (.int x3) = 1 := rfl; omega)
      have hb1 : kk + 1 ≤ 1099511627776 := by have h1 := E1.out; have h2 := D.nums_take_le L (j + 1); have h3 := HNU.out; have h4 := HK.out; omega
      go_wp2_with fail
      go_roundw
      case rel => exact ⟨j + 1, kk + 1, by omega, by go_num, by go_num, E1, S1, M1⟩
      case measure => simp [intOf]; omega
theorem lens_Sr : ∀ ts : List ByteArray, D.lens (Sr.ds ts) = ts.length
  | [] => rfl
  | t :: ts => by simp [Sr.ds, Sr.d, D.lens, D.len, lens_Sr ts]; omega
theorem dlen_Sr : ∀ (ts : List ByteArray), ∀ y ∈ Sr.ds ts, y.len = 1
  | [], y, h => by simp [Sr.ds] at h
  | t :: ts, y, h => by
    simp only [Sr.ds, List.mem_cons] at h
    rcases h with rfl | h
    · rfl
    · exact dlen_Sr ts y h
set_option maxRecDepth 100000 in
set_option maxHeartbeats 4000000 in
theorem markSrs (ts : List ByteArray) (a : Option Addr) (c : Nat) (F : List Nat) (k : Nat) (w : World) (hlen : ts.length ≤ 9223372036854775807) (hk : k + D.nums (Sr.ds ts) ≤ 1099511627776) (hr : Rd w (.list (Sr.ds ts)) [.slice a ts.length c] F) (ho : Owned w 0 F) :
    Calls Tryz.prog 59 #[.slice a ts.length c, .int .i64 k] w (MkPost w (.slice a ts.length c) F k (Sr.ds ts)) := by
  have hdl := Sr.ds_length ts
  by_cases hne : ts = []
  case pos =>
    have HP := hid (show MkPost w (.slice a ts.length c) F k (Sr.ds ts) (.returned (.int .i64 k)) w by
      subst hne
      exact ⟨by simp [Sr.ds, D.nums], by simpa [Sr.ds, D.marks] using hr, Mk.refl _ _⟩)
    have hz : ts.length = 0 := by rw [hne]; rfl
    clear hr ho hk hdl hne
    go_enter Tryz.func59, Tryz.ntmps59
    go_wp2_with fail
    go_loopw [1, 5] (fun q i wr => ∃ (j : Nat), j = 0 ∧ i = .int .i64 j ∧ q = .int .i64 k ∧ w = wr) (fun _ i _ => 0)
    case atStart => exact ⟨0, rfl, rfl, rfl, rfl⟩
    case round =>
      obtain ⟨j, hj, rfl, rfl, rfl⟩ := hrel
      have hlt : ¬ j < ts.length := by omega
      go_wp2_with fail
      go_ret
      exact HP.out
  case neg =>
  have hdne : Sr.ds ts ≠ [] := fun e => hne (List.length_eq_zero_iff.1 (by rw [← hdl, e]; rfl))
  obtain ⟨a', cap', e, h2, h3, h4⟩ := hr.list_inv
  simp only [List.cons.injEq, Value.slice.injEq, and_true] at e
  obtain ⟨rfl, -, rfl⟩ := e
  rcases h4 with ⟨h, _⟩ | ⟨b, o, xs, F', _, rfl, rfl, hbl, hx, hr'⟩
  · exact absurd h hdne
  have HRW := hid (RowMk.start (k := k) hx hr' ho)
  have HDN := hid (fun p W (h : RowMk k (D.flats (Sr.ds ts)) F' b o p W) (hp : p = (D.flats (Sr.ds ts)).length) => h.done hp hdl.symm hdne (by omega) h3)
  have HFL := hid (show (D.flats (Sr.ds ts)).length = ts.length by rw [D.flats_length]; exact lens_Sr ts)
  have HNU := hid (D.flats_num (Sr.ds ts))
  have HLL := hid (D.flats_leaf (Sr.ds ts))
  have HGT := hid (fun j i d x h1 h2 => D.flats_get (m := 1) (Sr.ds ts) j i d x (fun y hy => dlen_Sr ts y hy) h1 h2)
  have HGE := hid (Sr.ds_get ts)
  generalize hL : D.flats (Sr.ds ts) = L at HRW HDN HFL HNU HLL HGT
  have HK := hid hk
  have HNE := hid hne
  clear hr ho hk hdl hne hdne hx hr' hL h2 hbl
  go_enter Tryz.func59, Tryz.ntmps59
  go_wp2_with fail
  go_loopw [1, 5] (fun q i wr => ∃ (j kk : Nat), j ≤ ts.length ∧ i = .int .i64 j ∧ q = .int .i64 kk ∧ Hid (k + D.nums (L.take (j)) = kk) ∧ Hid (RowMk k L F' b o (j) wr) ∧ Hid (Mk (b :: F') w wr)) (fun _ i _ => ts.length - (intOf i).toNat)
  case atStart => exact ⟨0, k, by omega, rfl, rfl, by simp [D.nums, Hid], by simpa [Hid] using HRW.out, Mk.refl _ _⟩
  case round =>
    obtain ⟨j, kk, hj, rfl, rfl, HE0, HS0, HM0⟩ := hrel
    have hkk : kk ≤ 1099511627776 := by have h1 := HE0.out; have h2 := D.nums_take_le L (j); have h3 := HNU.out; have h4 := HK.out; omega
    by_cases hlt : j < ts.length
    case neg =>
      have HP := hid (show MkPost w (.slice (some ⟨b, o, none⟩) ts.length c) (b :: F') k (Sr.ds ts) (.returned (.int .i64 kk)) wr by
        obtain rfl : j = ts.length := by omega
        refine ⟨?_, HDN.out _ _ HS0.out HFL.out.symm, HM0.out⟩
        have h1 := HE0.out
        rw [← HFL.out, List.take_length, HNU.out] at h1
        rw [h1])
      go_wp2_with fail
      go_ret
      exact HP.out
    case pos =>
      obtain ⟨t, ht⟩ : ∃ t, ts[j]? = some t := ⟨_, List.getElem?_eq_getElem hlt⟩
      obtain ⟨x3, rfl⟩ : ∃ x3, x3 = t := ⟨_, rfl⟩
      have hL0 : L[j]? = some (.str x3) := by have := HGT.out j 0 (.str x3) (.str x3) (by rw [HGE.out, ht]; rfl) rfl; simpa using this
      have hT0 := fun W => mark_Text (kk) (by omega) W
      have HT0 := hid hT0
      clear hT0
      go_wp2_with fail
      refine (HT0.out _).mono ?_
      rintro e u0 ⟨rfl, hbb⟩
      have T0 := hid (HS0.out.below hbb)
      have N0 := hid (HM0.out.trans (Mk.of_below hbb))
      clear hbb
      obtain ⟨v0, G0, c0, z0, r0⟩ := T0.out.peek HLL.out j (by omega) hL0
      have c0' : u0.cell? ⟨b, o + j, none⟩ = some v0 := c0
      have z0' : u0.frozen? ⟨b, o + j, none⟩ = false := z0
      have hv0 : ∀ W, Rd W (D.mark (k + D.nums (L.take j)) (.str x3)) [.string (mtxt (kk))] [] := fun W => by rw [HE0.out]; have := Rd.str_mk (w := W) (s := mtxt (kk)) (by have := mtxt_size (kk); omega); simpa [D.mark] using this
      have S1 : Hid (RowMk k L F' b o (j + 1) _) := hid ((T0.out.scalar HLL.out hL0 Rd.str_sc).2.2 _ hv0)
      have M1 := hid (N0.out.trans (Mk.set (o := o + j) (.string (mtxt (kk))) (List.mem_cons_self)))
      have E1 := hid (show k + D.nums (L.take (j + 1)) = kk + 1 by have h1 : D.nums (L.take (j + 1)) = _ := D.nums_take L _ _ hL0; have h2 := HE0.out; have h3 : D.num (.str x3) = 1 := rfl; omega)
      have hb1 : kk + 1 ≤ 1099511627776 := by have h1 := E1.out; have h2 := D.nums_take_le L (j + 1); have h3 := HNU.out; have h4 := HK.out; omega
      go_wp2_with fail
      go_roundw
      case rel => exact ⟨j + 1, kk + 1, by omega, by go_num, by go_num, E1, S1, M1⟩
      case measure => simp [intOf]; omega
end Go.Proofs.YtgpefnlpbjnjbaaGreat
