/- What a redex looks like: plain facts. No condition. -/
import Derived.Test.YtejdbmeoaekhcaaNorP
import Derived.Test.YtejdbmeoaekhcaaCoRefs
namespace Go.Proofs.Ytejdbmeoaekhcaa
open Go.RowKit

theorem redx_one {k : Int} {n : Nat} {ks : List Co} (h : redx k n ks = 1) : k = 5 ∧ ∃ v0 d0 q0 r, ks = .mk 4 v0 d0 q0 :: r := by
  cases ks with
  | nil => simp [redx] at h
  | cons x r =>
    obtain ⟨k0, v0, d0, q0⟩ := x
    unfold redx at h
    repeat' split at h
    all_goals first | (exfalso; revert h; decide) | simp_all
theorem redx_two {k : Int} {n : Nat} {ks : List Co} (h : redx k n ks = 2) : k = 3 ∧ ∃ v0 d0 q0 v1 d1 q1 r, ks = .mk 2 v0 d0 q0 :: .mk 2 v1 d1 q1 :: r := by
  cases ks with
  | nil => simp [redx] at h
  | cons x r =>
    obtain ⟨k0, v0, d0, q0⟩ := x
    unfold redx at h
    repeat' split at h
    all_goals first | (exfalso; revert h; decide) | simp_all
theorem redx_three {k : Int} {n : Nat} {ks : List Co} (h : redx k n ks = 3) : (k = 9 ∧ ∃ v0 d0 q0 r, ks = .mk 8 v0 d0 q0 :: r ∧ v0 < n) ∨ (k = 10 ∧ ∃ v0 d0 q0 r, ks = .mk 2 v0 d0 q0 :: r) := by
  cases ks with
  | nil => simp [redx] at h
  | cons x r =>
    obtain ⟨k0, v0, d0, q0⟩ := x
    unfold redx at h
    repeat' split at h
    all_goals first | (exfalso; revert h; decide) | simp_all
theorem redx_four {k : Int} {n : Nat} {ks : List Co} (h : redx k n ks = 4) : (∃ v0 d0 q0 r, ks = .mk 11 v0 d0 q0 :: r) ∨ (∃ k0 v0 d0 q0 v1 d1 q1 r, ks = .mk k0 v0 d0 q0 :: .mk 11 v1 d1 q1 :: r ∧ k0 ≠ 11) := by
  cases ks with
  | nil => simp [redx] at h
  | cons x r =>
    obtain ⟨k0, v0, d0, q0⟩ := x
    unfold redx at h
    repeat' split at h
    all_goals first | (exfalso; revert h; decide) | simp_all
theorem redx_five (k : Int) (n : Nat) (ks : List Co) : redx k n ks = 0 ∨ redx k n ks = 1 ∨ redx k n ks = 2 ∨ redx k n ks = 3 ∨ redx k n ks = 4 := by
  cases ks with
  | nil => simp [redx]
  | cons x r =>
    obtain ⟨k0, v0, d0, q0⟩ := x
    unfold redx
    repeat' split
    all_goals simp
theorem refss_get : ∀ (ts : List Co) (n : Int) (j : Nat) (t : Co), Co.refss ts n = true → ts[j]? = some t → Co.refs t n = true
  | [], n, j, t, _, h => by simp at h
  | u :: ts, n, 0, t, g, h => by simp at h; subst h; simp only [Co.refss, Bool.and_eq_true] at g; exact g.1
  | u :: ts, n, j + 1, t, g, h => by simp only [Co.refss, Bool.and_eq_true] at g; exact refss_get ts n j t g.2 (by simpa using h)
theorem refs_kids {k v : Int} {ds : List Int} {ks : List Co} {n : Int} (h : Co.refs (.mk k v ds ks) n = true) : Co.refss ks n = true := by
  simp only [Co.refs, Bool.and_eq_true] at h; exact h.2.2
theorem refs_val {v : Int} {ds : List Int} {ks : List Co} {n : Int} (h : Co.refs (.mk 11 v ds ks) n = true) : v < n := by
  simp only [Co.refs, Bool.and_eq_true] at h
  have := h.1
  simp at this; omega
end Go.Proofs.Ytejdbmeoaekhcaa
