/- Walks: the form of a core's node, in the reference. -/
import Derived.Test.YtejdbmeoaekhcaaCoPlain
namespace Go.Proofs.Ytejdbmeoaekhcaa
open Go.ChangeShapes Go.WideShapes Go.ChangeAt Go.RowKit
set_option linter.unusedVariables false

theorem spec_l06Shape (k : Int) (w : World) : Calls Try.prog 95 #[.int .i64 k] w fun e w' => e = .returned (.tuple #[.int .i64 (coN k).1, .int .i64 (coN k).2.1, .int .i64 (coN k).2.2.1, .int .i64 (coN k).2.2.2]) ∧ w = w' := by
  by_cases h1 : k = 1
  · subst h1
    go_enter Try.func95, Try.ntmps95
    go_wp2_with fail
    refine bodyPost_ret (v := .tuple #[.int .i64 (0), .int .i64 (0), .int .i64 (0), .int .i64 (0)]) (by simp [results, Try.results95, go_sem]) rfl ⟨?_, rfl⟩
    rfl
  by_cases h2 : k = 2
  · subst h2
    go_enter Try.func95, Try.ntmps95
    go_wp2_with fail
    refine bodyPost_ret (v := .tuple #[.int .i64 (0), .int .i64 (0), .int .i64 (0), .int .i64 (0)]) (by simp [results, Try.results95, go_sem]) rfl ⟨?_, rfl⟩
    rfl
  by_cases h3 : k = 3
  · subst h3
    go_enter Try.func95, Try.ntmps95
    go_wp2_with fail
    refine bodyPost_ret (v := .tuple #[.int .i64 (2), .int .i64 (2), .int .i64 (0), .int .i64 (0)]) (by simp [results, Try.results95, go_sem]) rfl ⟨?_, rfl⟩
    rfl
  by_cases h4 : k = 4
  · subst h4
    go_enter Try.func95, Try.ntmps95
    go_wp2_with fail
    refine bodyPost_ret (v := .tuple #[.int .i64 (1), .int .i64 (1), .int .i64 (0), .int .i64 (0)]) (by simp [results, Try.results95, go_sem]) rfl ⟨?_, rfl⟩
    rfl
  by_cases h5 : k = 5
  · subst h5
    go_enter Try.func95, Try.ntmps95
    go_wp2_with fail
    refine bodyPost_ret (v := .tuple #[.int .i64 (2), .int .i64 (2), .int .i64 (0), .int .i64 (0)]) (by simp [results, Try.results95, go_sem]) rfl ⟨?_, rfl⟩
    rfl
  by_cases h6 : k = 6
  · subst h6
    go_enter Try.func95, Try.ntmps95
    go_wp2_with fail
    refine bodyPost_ret (v := .tuple #[.int .i64 (1), .int .i64 (1), .int .i64 (0), .int .i64 (0)]) (by simp [results, Try.results95, go_sem]) rfl ⟨?_, rfl⟩
    rfl
  by_cases h7 : k = 7
  · subst h7
    go_enter Try.func95, Try.ntmps95
    go_wp2_with fail
    refine bodyPost_ret (v := .tuple #[.int .i64 (2), .int .i64 (2), .int .i64 (0), .int .i64 (0)]) (by simp [results, Try.results95, go_sem]) rfl ⟨?_, rfl⟩
    rfl
  by_cases h8 : k = 8
  · subst h8
    go_enter Try.func95, Try.ntmps95
    go_wp2_with fail
    refine bodyPost_ret (v := .tuple #[.int .i64 (0), .int .i64 (3), .int .i64 (0), .int .i64 (0)]) (by simp [results, Try.results95, go_sem]) rfl ⟨?_, rfl⟩
    rfl
  by_cases h9 : k = 9
  · subst h9
    go_enter Try.func95, Try.ntmps95
    go_wp2_with fail
    refine bodyPost_ret (v := .tuple #[.int .i64 (1), .int .i64 (1), .int .i64 (1), .int .i64 (4)]) (by simp [results, Try.results95, go_sem]) rfl ⟨?_, rfl⟩
    rfl
  by_cases h10 : k = 10
  · subst h10
    go_enter Try.func95, Try.ntmps95
    go_wp2_with fail
    refine bodyPost_ret (v := .tuple #[.int .i64 (1), .int .i64 (1), .int .i64 (2), .int .i64 (2)]) (by simp [results, Try.results95, go_sem]) rfl ⟨?_, rfl⟩
    rfl
  by_cases h11 : k = 11
  · subst h11
    go_enter Try.func95, Try.ntmps95
    go_wp2_with fail
    refine bodyPost_ret (v := .tuple #[.int .i64 (0), .int .i64 (0), .int .i64 (0), .int .i64 (0)]) (by simp [results, Try.results95, go_sem]) rfl ⟨?_, rfl⟩
    rfl
  have g1 : (k == 1) = false := by simp [h1]
  have g2 : (k == 2) = false := by simp [h2]
  have g3 : (k == 3) = false := by simp [h3]
  have g4 : (k == 4) = false := by simp [h4]
  have g5 : (k == 5) = false := by simp [h5]
  have g6 : (k == 6) = false := by simp [h6]
  have g7 : (k == 7) = false := by simp [h7]
  have g8 : (k == 8) = false := by simp [h8]
  have g9 : (k == 9) = false := by simp [h9]
  have g10 : (k == 10) = false := by simp [h10]
  have g11 : (k == 11) = false := by simp [h11]
  have hn : coN k = (0, -1, 0, 0) := by simp [coN, h1, h2, h3, h4, h5, h6, h7, h8, h9, h10, h11]
  rw [hn]
  clear hn h1 h2 h3 h4 h5 h6 h7 h8 h9 h10 h11
  go_enter Try.func95, Try.ntmps95
  go_wp2_with fail
  refine bodyPost_ret (v := .tuple #[.int .i64 (0), .int .i64 (-1), .int .i64 (0), .int .i64 (0)]) (by simp [results, Try.results95, go_sem]) rfl ⟨?_, rfl⟩
  rfl

theorem spec_l06Value (k v : Int) (b o : Nat) (w : World) (x0 : w.cell? ⟨b, o, none⟩ = some (.int .i64 k)) (x1 : w.cell? ⟨b, o + 1, none⟩ = some (.int .i64 v)) : Calls Try.prog 96 #[.pointer (some ⟨b, o, none⟩)] w fun e w' => e = .returned (.bool (coVal k v)) ∧ w = w' := by
  by_cases h1 : k = 1
  · subst h1
    have hv : coVal 1 v = inR v (0) (255) := rfl
    rw [hv]
    clear hv
    go_enter Try.func96, Try.ntmps96
    go_wp2_with fail
    refine (spec_In _ _ _ _).mono ?_
    rintro e w2 ⟨rfl, rfl⟩
    go_wp2_with fail
    go_ret
    exact ⟨rfl, rfl⟩
  by_cases h2 : k = 2
  · subst h2
    have hv : coVal 2 v = inR v (-2147483648) (2147483647) := rfl
    rw [hv]
    clear hv
    go_enter Try.func96, Try.ntmps96
    go_wp2_with fail
    refine (spec_In _ _ _ _).mono ?_
    rintro e w2 ⟨rfl, rfl⟩
    go_wp2_with fail
    go_ret
    exact ⟨rfl, rfl⟩
  by_cases h3 : k = 3
  · subst h3
    have hv : coVal 3 v = inR v (1) (6) := rfl
    rw [hv]
    clear hv
    go_enter Try.func96, Try.ntmps96
    go_wp2_with fail
    refine (spec_In _ _ _ _).mono ?_
    rintro e w2 ⟨rfl, rfl⟩
    go_wp2_with fail
    go_ret
    exact ⟨rfl, rfl⟩
  by_cases h8 : k = 8
  · subst h8
    have hv : coVal 8 v = inR v (0) (3) := rfl
    rw [hv]
    clear hv
    go_enter Try.func96, Try.ntmps96
    go_wp2_with fail
    refine (spec_In _ _ _ _).mono ?_
    rintro e w2 ⟨rfl, rfl⟩
    go_wp2_with fail
    go_ret
    exact ⟨rfl, rfl⟩
  by_cases h11 : k = 11
  · subst h11
    have hv : coVal 11 v = inR v (0) (23) := rfl
    rw [hv]
    clear hv
    go_enter Try.func96, Try.ntmps96
    go_wp2_with fail
    refine (spec_In _ _ _ _).mono ?_
    rintro e w2 ⟨rfl, rfl⟩
    go_wp2_with fail
    go_ret
    exact ⟨rfl, rfl⟩
  have g1 : (k == 1) = false := by simp [h1]
  have g2 : (k == 2) = false := by simp [h2]
  have g3 : (k == 3) = false := by simp [h3]
  have g8 : (k == 8) = false := by simp [h8]
  have g11 : (k == 11) = false := by simp [h11]
  have hv : coVal k v = decide (v = 0) := by simp [coVal, h1, h2, h3, h8, h11]
  rw [hv]
  clear hv h1 h2 h3 h8 h11
  by_cases hz : v = 0
  · have hzb : (v == 0) = true := by simp [hz]
    have e : decide (v = 0) = true := by simp [hz]
    rw [e]
    clear hz e
    go_enter Try.func96, Try.ntmps96
    go_wp2_with fail
    go_ret
    exact ⟨rfl, rfl⟩
  · have hzb : (v == 0) = false := by simp [hz]
    have e : decide (v = 0) = false := by simp [hz]
    rw [e]
    clear hz e
    go_enter Try.func96, Try.ntmps96
    go_wp2_with fail
    go_ret
    exact ⟨rfl, rfl⟩
end Go.Proofs.Ytejdbmeoaekhcaa
