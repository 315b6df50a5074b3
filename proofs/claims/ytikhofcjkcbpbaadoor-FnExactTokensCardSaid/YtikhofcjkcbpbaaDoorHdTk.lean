/- Walks: marks in a list of tokens, read again. No condition. -/
import Derived.Test.YtikhofcjkcbpbaaDoorMkTk
import Derived.Test.YtikhofcjkcbpbaaDoorEqTk
import Derived.BigQuiet
namespace Go.Proofs.YtikhofcjkcbpbaaDoor
open Go.ChangeShapes Go.WideShapes Go.ChangeAt Go.RowKit Go.BigFrame
open Go.Sort (grow)
set_option linter.unusedVariables false

def mtks : Nat → Nat → List Tk
  | _, 0 => []
  | k, n + 1 => Tk.mk (k : Int) (mtxt (k + 1)) ((k + 2 : Nat) : Int) :: mtks (k + 3) n
theorem mtks_length : ∀ (n k : Nat), (mtks k n).length = n
  | 0, _ => rfl
  | n + 1, k => by simp [mtks, mtks_length n]
theorem mtks_get : ∀ (n k j : Nat), j < n → (mtks k n)[j]? = some (Tk.mk ((k + 3 * j : Nat) : Int) (mtxt (k + 3 * j + 1)) ((k + 3 * j + 2 : Nat) : Int))
  | 0, k, j, h => absurd h (by omega)
  | n + 1, k, 0, _ => by simp [mtks]
  | n + 1, k, j + 1, h => by rw [mtks, List.getElem?_cons_succ, mtks_get n (k + 3) j (by omega), show k + 3 + 3 * j = k + 3 * (j + 1) by omega]
theorem marks_Tk : ∀ (L : List Tk) (k : Nat), D.marks k (Tk.ds L) = Tk.ds (mtks k L.length)
  | [], _ => rfl
  | .mk a b c :: L, k => by
    simp only [Tk.ds, Tk.d, D.marks, D.mark, D.num, D.nums, List.length_cons, mtks]
    rw [show k + (1 + (1 + (1 + 0))) = k + 3 by omega, marks_Tk L (k + 3)]
theorem nums_Tk : ∀ (L : List Tk), D.nums (Tk.ds L) = 3 * L.length
  | [] => rfl
  | .mk a b c :: L => by simp only [Tk.ds, Tk.d, D.nums, D.num, List.length_cons]; rw [nums_Tk L]; omega
set_option maxHeartbeats 1000000 in
set_option maxRecDepth 100000 in
theorem heldTks (L0 : List Tk) (a : Option Addr) (c : Nat) (k : Nat) (w : World) (hk : k + 3 * L0.length ≤ 1099511627776) (hr : RdL w (D.marks k (Tk.ds L0)) (.slice a L0.length c)) :
    Calls Tryd.prog 20 #[.slice a L0.length c, .int .i64 k] w fun e w' => e = .returned (.int .i64 (k + 3 * L0.length : Nat)) ∧ Below w.heap.size w w' := by
  rw [marks_Tk] at hr
  obtain ⟨a', c', e, h2, h3, h4⟩ := hr.eTk
  rw [mtks_length] at e h2 h4
  simp only [Value.slice.injEq, true_and] at e
  obtain ⟨rfl, rfl⟩ := e
  have H4 := hid h4
  have HIO := hid (mtks_get L0.length k)
  clear hr h4
  go_enter Tryd.func20, Tryd.ntmps20
  go_wp2_with fail
  go_loopw [1, 5] (fun q i wr => ∃ (j m : Nat), j ≤ L0.length ∧ i = .int .i64 j ∧ q = .int .i64 m ∧ Hid (m = k + 3 * j) ∧ Below w.heap.size w wr) (fun _ i _ => L0.length - (intOf i).toNat)
  case atStart => exact ⟨0, k, by omega, rfl, rfl, hid (by omega), Below.refl _ _⟩
  case round =>
    obtain ⟨j, m, hj, rfl, rfl, HM, hb⟩ := hrel
    have hm : m + 3 ≤ 1099511627776 + 3 := by have := HM.out; omega
    by_cases hlt : j < L0.length
    case neg =>
      have HE := hid (show m = k + 3 * L0.length by have := HM.out; omega)
      go_wp2_with fail
      go_ret
      exact ⟨by rw [← HE.out]; rfl, hb⟩
    case pos =>
      obtain ⟨b, o, rfl, hbl, hall⟩ := H4.out (by omega)
      have hm1 : m + 1 ≤ 1099511627776 := by have := HM.out; omega
      obtain ⟨q0, q1, q2, -⟩ := hall j _ _ _ (HIO.out j hlt)
      rw [← HM.out] at q0 q1 q2
      have HB := hid hb
      have e0 := (HB.out.cell (p := ⟨b, o + j * 3, none⟩) hbl).trans q0
      have e1 := (HB.out.cell (p := ⟨b, o + j * 3 + 1, none⟩) hbl).trans q1
      have E2 := hid q2
      have d1 := cell_regrown e1
      have hc := fun d os => Calls.regrown_of (mark_Text (m + 1) hm1 (grow (redrawn wr d) os))
      have HC := hid hc
      generalize hs : mtxt (m + 1) = sm at d1 e1 HC
      have hq : (sm.data == sm.data) = true := by simp
      clear hall H4 hc q0 q1 q2 hs hb
      go_wp2_with fail
      clear e0 e1
      refine wp_region_quiet_below (by kernel_rfl) (by kernel_rfl) ?_
      repeat (go_big_quiet_step (exact HC.out _ _))
      refine wpQuiet_nil ?_
      intro _ hw'
      obtain ⟨⟨dq, osq⟩, hw''⟩ := hw'
      subst hw''
      have HB2 := hid (HB.out.trans ((below_regrown wr dq osq).mono HB.out.size))
      have e2 := (HB2.out.cell (p := ⟨b, o + j * 3 + 2, none⟩) hbl).trans E2.out
      clear HC d1 HB
      go_wp2_with fail
      go_roundw
      case rel => exact ⟨j + 1, m + 3, by omega, by go_num, by go_num, hid (by have := HM.out; omega), HB2.out⟩
      case measure => first | (simp [intOf]; done) | (simp [intOf]; omega)
end Go.Proofs.YtikhofcjkcbpbaaDoor
