/- Walks: the text of a mark. -/
import Derived.Test.YtikhofcjkcbpbaaDoorMark
import Derived.Lib.QuietBelow
import Derived.Laws.IdiomStrings
namespace Go.Proofs.YtikhofcjkcbpbaaDoor
open Go.ChangeShapes Go.WideShapes Go.ChangeAt Go.RowKit
set_option linter.unusedVariables false

theorem one_new' (w : World) (a : Value) (t : TypeId) : (w.alloc (.cells #[a] t)).cell? ⟨w.heap.size, 0, none⟩ = some a := by
  have hh : (w.alloc (.cells #[a] t (0, 0))).heap[w.heap.size]? = some (.cells #[a] t (0, 0)) := heap_alloc_new w _
  simp only [World.cell?, hh]
  simp
theorem mdig_zero (f m : Nat) (out : ByteArray) (h : m = 0) : mdig f m out = out := by subst h; cases f <;> simp [mdig]
set_option maxRecDepth 100000 in
set_option maxHeartbeats 1000000 in
theorem mark_Text (k : Nat) (hk : k ≤ 1099511627776) (w : World) : Calls Tryd.prog 40 #[.int .i64 k] w fun e w' => e = .returned (.string (mtxt k)) ∧ Below w.heap.size w w' := by
  by_cases h0 : k = 0
  case pos =>
    subst h0
    go_enter Tryd.func40, Tryd.ntmps40
    go_wp2_with fail
    go_ret
    exact ⟨rfl, Below.refl _ _⟩
  case neg =>
  have g0 : decide (k = 0) = false := decide_eq_false h0
  have HF := hid (show mtxt k = ⟨#[109]⟩ ++ mdig k k ⟨#[]⟩ by rw [mtxt, if_neg h0])
  go_enter Tryd.func40, Tryd.ntmps40
  go_wp2_with fail
  go_loopw [0, 3] (fun i s wr => ∃ (f m : Nat) (out : ByteArray), m ≤ f ∧ out.size + m ≤ k ∧ i = .int .i64 m ∧ s = .string out ∧ Hid (mdig f m out = mdig k k ⟨#[]⟩) ∧ Below w.heap.size w wr) (fun i _ _ => (intOf i).toNat)
  case atStart => exact ⟨k, k, ⟨#[]⟩, by omega, by have : (⟨#[]⟩ : ByteArray).size = 0 := rfl; omega, rfl, rfl, rfl, Below.refl _ _⟩
  case round =>
    obtain ⟨f, m, out, hmf, hmk, rfl, rfl, HD, hb⟩ := hrel
    by_cases hm : 0 < m
    case neg =>
      have HE := hid (show out = mdig k k ⟨#[]⟩ from (mdig_zero f m out (by omega)).symm.trans HD.out)
      have hos : out.size ≤ 1099511627776 := by omega
      have gm : decide (0 < m) = false := decide_eq_false hm
      go_wp2_with fail
      go_ret
      exact ⟨by rw [HF.out, ← HE.out]; rfl, hb⟩
    case pos =>
      obtain ⟨f, rfl⟩ : ∃ f', f = f' + 1 := ⟨f - 1, by omega⟩
      have gm : decide (0 < m) = true := decide_eq_true hm
      have HE := hid (show mdig f (m / 10) (⟨#[dig8 m]⟩ ++ out) = mdig k k ⟨#[]⟩ by rw [← HD.out, mdig, if_neg (by omega)])
      have hc8 := dig8_toNat m
      have hcv : (convert 44 9 (.slice (some ⟨wr.heap.size, 0, none⟩) 1 1)).run Tryd.prog (wr.alloc (.cells #[.int .u8 (48 + (m : Int) % 10)] 5)) = .ok (.string ⟨#[dig8 m]⟩) (wr.alloc (.cells #[.int .u8 (48 + (m : Int) % 10)] 5)) :=
        run_convert_bytes_back (wr.alloc (.cells #[.int .u8 (48 + (m : Int) % 10)] 5)) 44 9 5 ⟨wr.heap.size, 0, none⟩ 1 [dig8 m] Tryd.underlying44 Tryd.underlying5 Tryd.underlying9 (fun j hj => by
          obtain rfl : j = 0 := by simpa using hj
          rw [show ([dig8 m][0]'hj).toNat = 48 + m % 10 from hc8]
          have := one_new' wr (.int .u8 (48 + (m : Int) % 10)) 5
          exact this)
      have hsz : ((⟨#[dig8 m]⟩ : ByteArray) ++ out).size = 1 + out.size := by rw [ByteArray.size_append]; rfl
      have hos : out.size ≤ 1099511627776 := by omega
      have HB1 := hid (hb.trans (((Below.refl wr.heap.size wr).alloc (Nat.le_refl _) (.cells #[.int .u8 (48 + (m : Int) % 10)] 5)).mono hb.size))
      go_wp2_with fail
      go_roundw
      case rel => exact ⟨f, m / 10, _, by omega, by rw [hsz]; omega, by go_num, rfl, HE, HB1.out⟩
      case measure => simp [intOf]; omega
end Go.Proofs.YtikhofcjkcbpbaaDoor
