/- Walks: marks in a list of strings, read again. -/
import Derived.Test.YtdcifcfkjhpokaaMkSc
import Derived.Test.YtdcifcfkjhpokaaEqSc
namespace Go.Proofs.Ytdcifcfkjhpokaa
open Go.Sort (grow)
open Go.ChangeShapes Go.WideShapes Go.ChangeAt Go.RowKit
set_option linter.unusedVariables false

def mtxts : Nat → Nat → List ByteArray
  | _, 0 => []
  | k, n + 1 => mtxt k :: mtxts (k + 1) n
theorem mtxts_length : ∀ (n k : Nat), (mtxts k n).length = n
  | 0, _ => rfl
  | n + 1, k => by simp [mtxts, mtxts_length n]
theorem mtxts_get : ∀ (n k j : Nat), j < n → (mtxts k n)[j]? = some (mtxt (k + j))
  | 0, k, j, h => absurd h (by omega)
  | n + 1, k, 0, _ => by simp [mtxts]
  | n + 1, k, j + 1, h => by rw [mtxts, List.getElem?_cons_succ, mtxts_get n (k + 1) j (by omega), show k + 1 + j = k + (j + 1) by omega]
theorem marks_Sr : ∀ (L : List ByteArray) (k : Nat), D.marks k (Sr.ds L) = Sr.ds (mtxts k L.length)
  | [], _ => rfl
  | x :: L, k => by simp only [Sr.ds, Sr.d, D.marks, D.mark, D.num, List.length_cons, mtxts]; rw [marks_Sr L (k + 1)]
set_option maxHeartbeats 1000000 in
theorem heldSrs (L0 : List ByteArray) (a : Option Addr) (c : Nat) (k : Nat) (w : World) (hk : k + L0.length ≤ 1099511627776) (hr : RdL w (D.marks k (Sr.ds L0)) (.slice a L0.length c)) :
    Calls Try.prog 31 #[.slice a L0.length c, .int .i64 k] w fun e w' => e = .returned (.int .i64 (k + L0.length : Nat)) ∧ Below w.heap.size w w' := by
  rw [marks_Sr] at hr
  obtain ⟨a', c', e, h2, h3, h4⟩ := hr.eSr
  rw [mtxts_length] at e h2 h4
  simp only [Value.slice.injEq, true_and] at e
  obtain ⟨rfl, rfl⟩ := e
  have H4 := hid h4
  have HIO := hid (mtxts_get L0.length k)
  clear hr h4
  go_enter Try.func31, Try.ntmps31
  go_wp2_with fail
  go_loopw [1, 5] (fun q i wr => ∃ (j m : Nat), j ≤ L0.length ∧ i = .int .i64 j ∧ q = .int .i64 m ∧ Hid (m = k + j) ∧ Below w.heap.size w wr) (fun _ i _ => L0.length - (intOf i).toNat)
  case atStart => exact ⟨0, k, by omega, rfl, rfl, rfl, Below.refl _ _⟩
  case round =>
    obtain ⟨j, m, hj, rfl, rfl, HM, hb⟩ := hrel
    have hm : m ≤ 1099511627776 := by have := HM.out; omega
    by_cases hlt : j < L0.length
    case neg =>
      have HE := hid (show m = k + L0.length by have := HM.out; omega)
      go_wp2_with fail
      go_ret
      exact ⟨by rw [← HE.out]; rfl, hb⟩
    case pos =>
      obtain ⟨b, o, rfl, hbl, hall⟩ := H4.out (by omega)
      have q0 := (hall j _ (HIO.out j hlt)).1
      rw [← HM.out] at q0
      have d0 := cell_regrown ((hb.cell (p := ⟨b, o + j, none⟩) hbl).trans q0)
      have hc := fun d os => Calls.regrown_of (mark_Text m hm (grow (redrawn wr d) os))
      have HC := hid hc
      generalize hs : mtxt m = sm at d0 HC
      have hq : (sm.data == sm.data) = true := by simp
      clear hall H4 hc q0 hs
      go_wp2_with fail
      refine wp_region_quiet_below (by kernel_rfl) (by kernel_rfl) ?_
      repeat (quiet_step (exact HC.out _ _))
      refine wpQuiet_nil ?_
      intro _ hw'
      obtain ⟨⟨dq, osq⟩, hw''⟩ := hw'
      subst hw''
      have hbq := hb.trans ((below_regrown wr dq osq).mono hb.size)
      clear HC d0
      go_wp2_with fail
      go_roundw
      case rel => exact ⟨j + 1, m + 1, by omega, by go_num, by go_num, hid (by have := HM.out; omega), hbq⟩
      case measure => simp [intOf]; omega
end Go.Proofs.Ytdcifcfkjhpokaa
