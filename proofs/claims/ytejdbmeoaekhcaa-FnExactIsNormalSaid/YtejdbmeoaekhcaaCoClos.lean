/- Cores: which variables are free; walks of binds. -/
import Derived.Test.YtejdbmeoaekhcaaCoFits
namespace Go.Proofs.Ytejdbmeoaekhcaa
open Go.ChangeShapes Go.WideShapes Go.ChangeAt Go.RowKit
set_option linter.unusedVariables false

def bindsOf (k i : Int) : Int := if k = 4 then 1 else if k = 7 then (if i = 1 then 1 else 0) else 0
mutual
/-- All variables are below d. -/
def Co.clo : Co → Int → Bool
  | .mk k v _ ks, d => (!(decide (k = 1) && decide (d ≤ v))) && Co.clos k 0 ks d
def Co.clos : Int → Nat → List Co → Int → Bool
  | _, _, [], _ => true
  | k, i, t :: ts, d => Co.clo t (d + bindsOf k i) && Co.clos k (i + 1) ts d
end
theorem Co.clos_no : ∀ (k : Int) (i : Nat) (ts : List Co) (d : Int) (j : Nat) (t : Co), ts[j]? = some t → Co.clo t (d + bindsOf k (i + j : Nat)) = false → Co.clos k i ts d = false
  | k, i, [], d, j, t, h, _ => by simp at h
  | k, i, u :: ts, d, 0, t, h, e => by simp at h; subst h; simp at e; simp [Co.clos, e]
  | k, i, u :: ts, d, j + 1, t, h, e => by
    rw [Co.clos, Co.clos_no k (i + 1) ts d j t (by simpa using h) (by rw [← e]; congr 3; omega)]; simp
theorem Co.clos_yes : ∀ (k : Int) (i : Nat) (ts : List Co) (d : Int), (∀ (j : Nat) t, ts[j]? = some t → Co.clo t (d + bindsOf k (i + j : Nat)) = true) → Co.clos k i ts d = true
  | k, i, [], d, _ => rfl
  | k, i, t :: ts, d, h => by
    have h0 := h 0 t rfl
    rw [Co.clos, show Co.clo t (d + bindsOf k i) = true by simpa using h0, Co.clos_yes k (i + 1) ts d fun j u hj => by rw [← h (j + 1) u (by simpa using hj)]; congr 3; omega]
    rfl

theorem impl_truth (b : Bool) (w : World) : Calls Try.prog 105 #[.bool b] w fun e w' => e = .returned (.int .i64 (if b then 1 else 0)) ∧ w = w' := by
  cases b
  all_goals
    go_enter Try.func105, Try.ntmps105
    go_wp2_with fail
    go_ret
    exact ⟨rfl, rfl⟩
theorem impl_binds (k1 : Int) (v1 : Int) (ds1 : List Int) (ks1 : List Co) (ads1 : Option Addr) (cds1 : Nat) (aks1 : Option Addr) (cks1 : Nat) (i : Int) (w : World) : Calls Try.prog 101 #[.agg #[.int .i64 k1, .int .i64 v1, .slice ads1 ds1.length cds1, .slice aks1 ks1.length cks1], .int .i64 i] w fun e w' => e = .returned (.int .i64 (bindsOf k1 i)) ∧ Below w.heap.size w w' := by
  have HB := hid ((Below.refl w.heap.size w).alloc (Nat.le_refl _) (.cells #[.int .i64 k1, .int .i64 v1, .slice ads1 ds1.length cds1, .slice aks1 ks1.length cks1] 36))
  by_cases h4 : k1 = 4
  case pos =>
    subst h4
    rw [show bindsOf 4 i = 1 from rfl]
    go_enter Try.func101, Try.ntmps101
    go_wp2_with fail
    refine (impl_truth true _).mono ?_
    rintro e w1 ⟨rfl, rfl⟩
    go_wp2_with fail
    go_ret
    exact ⟨rfl, HB.out⟩
  case neg =>
  by_cases h7 : k1 = 7
  case pos =>
    subst h7
    by_cases hi : i = 1
    case pos =>
      subst hi
      rw [show bindsOf 7 1 = 1 from rfl]
      clear h4
      go_enter Try.func101, Try.ntmps101
      go_wp2_with fail
      refine (impl_truth true _).mono ?_
      rintro e w1 ⟨rfl, rfl⟩
      go_wp2_with fail
      go_ret
      exact ⟨rfl, HB.out⟩
    case neg =>
      have gi : (i == 1) = false := by simp [hi]
      rw [show bindsOf 7 i = 0 by simp [bindsOf, hi]]
      clear h4 hi
      go_enter Try.func101, Try.ntmps101
      go_wp2_with fail
      refine (impl_truth false _).mono ?_
      rintro e w1 ⟨rfl, rfl⟩
      go_wp2_with fail
      go_ret
      exact ⟨rfl, HB.out⟩
  case neg =>
    have g4 : (k1 == 4) = false := by simp [h4]
    have g7 : (k1 == 7) = false := by simp [h7]
    rw [show bindsOf k1 i = 0 by simp [bindsOf, h4, h7]]
    clear h4 h7
    go_enter Try.func101, Try.ntmps101
    go_wp2_with fail
    refine (impl_truth false _).mono ?_
    rintro e w1 ⟨rfl, rfl⟩
    go_wp2_with fail
    go_ret
    exact ⟨rfl, HB.out⟩
theorem spec_binds (k1 : Int) (b1 o1 : Nat) (i : Int) (w : World) (x0 : w.cell? ⟨b1, o1, none⟩ = some (.int .i64 k1)) : Calls Try.prog 77 #[.pointer (some ⟨b1, o1, none⟩), .int .i64 i] w fun e w' => e = .returned (.int .i64 (bindsOf k1 i)) ∧ w = w' := by
  by_cases h4 : k1 = 4
  case pos =>
    subst h4
    rw [show bindsOf 4 i = 1 from rfl]
    go_enter Try.func77, Try.ntmps77
    go_wp2_with fail
    go_ret
    exact ⟨rfl, rfl⟩
  case neg =>
  by_cases h7 : k1 = 7
  case pos =>
    subst h7
    by_cases hi : i = 1
    case pos =>
      subst hi
      rw [show bindsOf 7 1 = 1 from rfl]
      clear h4
      go_enter Try.func77, Try.ntmps77
      go_wp2_with fail
      go_ret
      exact ⟨rfl, rfl⟩
    case neg =>
      have gi : (i == 1) = false := by simp [hi]
      rw [show bindsOf 7 i = 0 by simp [bindsOf, hi]]
      clear h4 hi
      go_enter Try.func77, Try.ntmps77
      go_wp2_with fail
      go_ret
      exact ⟨rfl, rfl⟩
  case neg =>
    have g4 : (k1 == 4) = false := by simp [h4]
    have g7 : (k1 == 7) = false := by simp [h7]
    rw [show bindsOf k1 i = 0 by simp [bindsOf, h4, h7]]
    clear h4 h7
    go_enter Try.func77, Try.ntmps77
    go_wp2_with fail
    go_ret
    exact ⟨rfl, rfl⟩
end Go.Proofs.Ytejdbmeoaekhcaa
