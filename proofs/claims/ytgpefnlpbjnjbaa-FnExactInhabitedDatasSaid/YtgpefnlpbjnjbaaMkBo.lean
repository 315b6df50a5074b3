/- Walks: marks in lists of truth values, read again. -/
import Derived.Test.YtgpefnlpbjnjbaaMkTxt
import Derived.Lib.QuietBelow
namespace Go.Proofs.Ytgpefnlpbjnjbaa
open Go.ChangeShapes Go.WideShapes Go.ChangeAt Go.RowKit
set_option linter.unusedVariables false

theorem lens_Bo : ∀ ts : List Bool, D.lens (Bo.ds ts) = ts.length
  | [] => rfl
  | t :: ts => by simp [Bo.ds, Bo.d, D.lens, D.len, lens_Bo ts]; omega
theorem dlen_Bo : ∀ (ts : List Bool), ∀ y ∈ Bo.ds ts, y.len = 1
  | [], y, h => by simp [Bo.ds] at h
  | t :: ts, y, h => by
    simp only [Bo.ds, List.mem_cons] at h
    rcases h with rfl | h
    · rfl
    · exact dlen_Bo ts y h
set_option maxRecDepth 100000 in
set_option maxHeartbeats 4000000 in
theorem markBos (ts : List Bool) (a : Option Addr) (c : Nat) (F : List Nat) (k : Nat) (w : World) (hlen : ts.length ≤ 9223372036854775807) (hk : k + D.nums (Bo.ds ts) ≤ 1099511627776) (hr : Rd w (.list (Bo.ds ts)) [.slice a ts.length c] F) (ho : Owned w 0 F) :
    Calls Try.prog 25 #[.slice a ts.length c, .int .i64 k] w (MkPost w (.slice a ts.length c) F k (Bo.ds ts)) := by
  have hdl := Bo.ds_length ts
  by_cases hne : ts = []
  case pos =>
    have HP := hid (show MkPost w (.slice a ts.length c) F k (Bo.ds ts) (.returned (.int .i64 k)) w by
      subst hne
      exact ⟨by simp [Bo.ds, D.nums], by simpa [Bo.ds, D.marks] using hr, Mk.refl _ _⟩)
    have hz : ts.length = 0 := by rw [hne]; rfl
    clear hr ho hk hdl hne
    go_enter Try.func25, Try.ntmps25
    go_wp2_with fail
    go_loopw [1, 5] (fun q i wr => ∃ (j : Nat), j = 0 ∧ i = .int .i64 j ∧ q = .int .i64 k ∧ w = wr) (fun _ i _ => 0)
    case atStart => exact ⟨0, rfl, rfl, rfl, rfl⟩
    case round =>
      obtain ⟨j, hj, rfl, rfl, rfl⟩ := hrel
      have hlt : ¬ j < ts.length := by omega
      go_wp2_with fail
      go_ret
      exact HP.out
  case neg =>
  have hdne : Bo.ds ts ≠ [] := fun e => hne (List.length_eq_zero_iff.1 (by rw [← hdl, e]; rfl))
  obtain ⟨a', cap', e, h2, h3, h4⟩ := hr.list_inv
  simp only [List.cons.injEq, Value.slice.injEq, and_true] at e
  obtain ⟨rfl, -, rfl⟩ := e
  rcases h4 with ⟨h, _⟩ | ⟨b, o, xs, F', _, rfl, rfl, hbl, hx, hr'⟩
  · exact absurd h hdne
  have HRW := hid (RowMk.start (k := k) hx hr' ho)
  have HDN := hid (fun p W (h : RowMk k (D.flats (Bo.ds ts)) F' b o p W) (hp : p = (D.flats (Bo.ds ts)).length) => h.done hp hdl.symm hdne (by omega) h3)
  have HFL := hid (show (D.flats (Bo.ds ts)).length = ts.length by rw [D.flats_length]; exact lens_Bo ts)
  have HNU := hid (D.flats_num (Bo.ds ts))
  have HLL := hid (D.flats_leaf (Bo.ds ts))
  have HGT := hid (fun j i d x h1 h2 => D.flats_get (m := 1) (Bo.ds ts) j i d x (fun y hy => dlen_Bo ts y hy) h1 h2)
  have HGE := hid (Bo.ds_get ts)
  generalize hL : D.flats (Bo.ds ts) = L at HRW HDN HFL HNU HLL HGT
  have HK := hid hk
  have HNE := hid hne
  clear hr ho hk hdl hne hdne hx hr' hL h2 hbl
  go_enter Try.func25, Try.ntmps25
  go_wp2_with fail
  go_loopw [1, 5] (fun q i wr => ∃ (j kk : Nat), j ≤ ts.length ∧ i = .int .i64 j ∧ q = .int .i64 kk ∧ Hid (k + D.nums (L.take (j)) = kk) ∧ Hid (RowMk k L F' b o (j) wr) ∧ Hid (Mk (b :: F') w wr)) (fun _ i _ => ts.length - (intOf i).toNat)
  case atStart => exact ⟨0, k, by omega, rfl, rfl, by simp [D.nums, Hid], by simpa [Hid] using HRW.out, Mk.refl _ _⟩
  case round =>
    obtain ⟨j, kk, hj, rfl, rfl, HE0, HS0, HM0⟩ := hrel
    have hkk : kk ≤ 1099511627776 := by have h1 := HE0.out; have h2 := D.nums_take_le L (j); have h3 := HNU.out; have h4 := HK.out; omega
    by_cases hlt : j < ts.length
    case neg =>
      have HP := hid (show MkPost w (.slice (some ⟨b, o, none⟩) ts.length c) (b :: F') k (Bo.ds ts) (.returned (.int .i64 kk)) wr by
        obtain rfl : j = ts.length := by omega
        refine ⟨?_, HDN.out _ _ HS0.out HFL.out.symm, HM0.out⟩
        have h1 := HE0.out
        rw [← HFL.out, List.take_length, HNU.out] at h1
        rw [h1])
      go_wp2_with fail
      go_ret
      exact HP.out
    case pos =>
      obtain ⟨t, ht⟩ : ∃ t, ts[j]? = some t := ⟨_, List.getElem?_eq_getElem hlt⟩
      obtain ⟨x3, rfl⟩ : ∃ x3, x3 = t := ⟨_, rfl⟩
      have hL0 : L[j]? = some (.bool x3) := by have := HGT.out j 0 (.bool x3) (.bool x3) (by rw [HGE.out, ht]; rfl) rfl; simpa using this
      obtain ⟨v0, G0, c0, z0, r0⟩ := HS0.out.peek HLL.out j (by omega) hL0
      have c0' : wr.cell? ⟨b, o + j, none⟩ = some v0 := c0
      have z0' : wr.frozen? ⟨b, o + j, none⟩ = false := z0
      obtain ⟨bb0, hbb0⟩ : ∃ bb : Bool, ((kk : Int) % 3 == 0) = bb := ⟨_, rfl⟩
      have HBB0 := hid (show (((kk : Nat) % 3 == 0) : Bool) = bb0 by rw [← hbb0, Bool.eq_iff_iff]; simp; omega)
      have hv0 : ∀ W, Rd W (D.mark (k + D.nums (L.take j)) (.bool x3)) [.bool bb0] [] := fun W => by rw [HE0.out]; have := Rd.bool_mk (w := W) (b := bb0); rw [D.mark, HBB0.out]; exact this
      have S1 : Hid (RowMk k L F' b o (j + 1) _) := hid ((HS0.out.scalar HLL.out hL0 Rd.bool_sc).2.2 _ hv0)
      have M1 := hid (HM0.out.trans (Mk.set (o := o + j) (.bool bb0) (List.mem_cons_self)))
      have E1 := hid (show k + D.nums (L.take (j + 1)) = kk + 1 by have h1 : D.nums (L.take (j + 1)) = _ := D.nums_take L _ _ hL0; have h2 := HE0.out; have h3 : D.num (.bool x3) = 1 := rfl; omega)
      have hb1 : kk + 1 ≤ 1099511627776 := by have h1 := E1.out; have h2 := D.nums_take_le L (j + 1); have h3 := HNU.out; have h4 := HK.out; omega
      go_wp2_with fail
      go_roundw
      case rel => exact ⟨j + 1, kk + 1, by omega, by go_num, by go_num, E1, S1, M1⟩
      case measure => simp [intOf]; omega
def mboolsL : Nat → Nat → List Bool
  | _, 0 => []
  | k, n + 1 => (k % 3 == 0) :: mboolsL (k + 1) n
theorem mboolsL_length : ∀ (n k : Nat), (mboolsL k n).length = n
  | 0, _ => rfl
  | n + 1, k => by simp [mboolsL, mboolsL_length n]
theorem mboolsL_get : ∀ (n k j : Nat), j < n → (mboolsL k n)[j]? = some ((k + j) % 3 == 0)
  | 0, k, j, h => absurd h (by omega)
  | n + 1, k, 0, _ => by simp [mboolsL]
  | n + 1, k, j + 1, h => by rw [mboolsL, List.getElem?_cons_succ, mboolsL_get n (k + 1) j (by omega), show k + 1 + j = k + (j + 1) by omega]
theorem marks_Bo : ∀ (L : List Bool) (k : Nat), D.marks k (Bo.ds L) = Bo.ds (mboolsL k L.length)
  | [], _ => rfl
  | x :: L, k => by simp only [Bo.ds, Bo.d, D.marks, D.mark, D.num, List.length_cons, mboolsL]; rw [marks_Bo L (k + 1)]
theorem nums_Bo : ∀ (L : List Bool), D.nums (Bo.ds L) = L.length
  | [] => rfl
  | x :: L => by simp only [Bo.ds, Bo.d, D.nums, D.num, List.length_cons]; rw [nums_Bo L]; omega
theorem heldBos (L0 : List Bool) (a : Option Addr) (c : Nat) (k : Nat) (w : World) (hk : k + L0.length ≤ 1099511627776) (hr : RdL w (D.marks k (Bo.ds L0)) (.slice a L0.length c)) :
    Calls Try.prog 26 #[.slice a L0.length c, .int .i64 k] w fun e w' => e = .returned (.int .i64 (k + L0.length : Nat)) ∧ Below w.heap.size w w' := by
  rw [marks_Bo] at hr
  obtain ⟨a', c', e, h2, h3, h4⟩ := hr.eBo
  rw [mboolsL_length] at e h2 h4
  simp only [Value.slice.injEq, true_and] at e
  obtain ⟨rfl, rfl⟩ := e
  have H4 := hid h4
  have HIO := hid (mboolsL_get L0.length k)
  clear hr h4
  go_enter Try.func26, Try.ntmps26
  go_wp2_with fail
  go_loopw [1, 5] (fun q i wr => ∃ (j m : Nat), j ≤ L0.length ∧ i = .int .i64 j ∧ q = .int .i64 m ∧ Hid (m = k + j) ∧ w = wr) (fun _ i _ => L0.length - (intOf i).toNat)
  case atStart => exact ⟨0, k, by omega, rfl, rfl, rfl, rfl⟩
  case round =>
    obtain ⟨j, m, hj, rfl, rfl, HM, rfl⟩ := hrel
    have hm : m ≤ 1099511627776 := by have := HM.out; omega
    by_cases hlt : j < L0.length
    case neg =>
      have HE := hid (show m = k + L0.length by have := HM.out; omega)
      go_wp2_with fail
      go_ret
      exact ⟨by rw [← HE.out]; rfl, Below.refl _ _⟩
    case pos =>
      obtain ⟨b, o, rfl, hbl, hall⟩ := H4.out (by omega)
      have q0 := hall j _ (HIO.out j hlt)
      rw [← HM.out] at q0
      obtain ⟨bb, hbb⟩ : ∃ bb : Bool, ((m : Int) % 3 == 0) = bb := ⟨_, rfl⟩
      have HBB : ((m % 3 == 0) : Bool) = bb := by rw [← hbb, Bool.eq_iff_iff]; simp; omega
      rw [HBB] at q0
      clear hall H4 HBB
      go_wp2_with fail
      go_roundw
      case rel => exact ⟨j + 1, m + 1, by omega, by go_num, by go_num, hid (by have := HM.out; omega), by first | rfl | trivial⟩
      case measure => simp [intOf]; omega
end Go.Proofs.Ytgpefnlpbjnjbaa
