/- Redexes and normal cores: plain facts. No condition. -/
import Derived.Test.YtejdbmeoaekhcaaCoPlain
namespace Go.Proofs.Ytejdbmeoaekhcaa
open Go.RowKit

/-- The kind of a redex at the root, or 0: kind, number of definitions, children. -/
def redx (k : Int) (n : Nat) : List Co → Int
  | [] => 0
  | .mk k0 v0 _ _ :: r =>
    if k = 5 then (if k0 = 4 then 1 else if k0 = 11 then 4 else 0)
    else if k = 3 then (if k0 = 11 then 4 else if k0 = 2 then (match r with | [] => 0 | .mk k2 _ _ _ :: _ => if k2 = 2 then 2 else if k2 = 11 then 4 else 0) else 0)
    else if k = 9 then (if k0 = 8 ∧ v0 < n then 3 else if k0 = 11 then 4 else 0)
    else if k = 10 then (if k0 = 2 then 3 else if k0 = 11 then 4 else 0) else 0
mutual
def Co.nor : Co → Bool
  | .mk k _ ds ks => decide (redx k ds.length ks = 0) && Co.nors ks
def Co.nors : List Co → Bool
  | [] => true
  | t :: ts => Co.nor t && Co.nors ts
end
theorem Co.nors_no : ∀ (ts : List Co) (j : Nat) (t : Co), ts[j]? = some t → Co.nor t = false → Co.nors ts = false
  | [], j, t, h, _ => by simp at h
  | u :: ts, 0, t, h, e => by simp at h; subst h; simp [Co.nors, e]
  | u :: ts, j + 1, t, h, e => by rw [Co.nors, Co.nors_no ts j t (by simpa using h) e]; simp
theorem Co.nors_yes : ∀ (ts : List Co), (∀ (j : Nat) t, ts[j]? = some t → Co.nor t = true) → Co.nors ts = true
  | [], _ => rfl
  | t :: ts, h => by rw [Co.nors, h 0 t rfl, Co.nors_yes ts fun j u hj => h (j + 1) u (by simpa using hj)]; rfl
theorem Co.nor_mk (k v : Int) (ds : List Int) (ks : List Co) : Co.nor (.mk k v ds ks) = (decide (redx k ds.length ks = 0) && Co.nors ks) := rfl
theorem Co.good_mk {k v : Int} {ds : List Int} {ks : List Co} (h : Co.good (.mk k v ds ks) = true) : okCo k v ds ks.length = true ∧ Co.goods ks = true := by
  simpa only [Co.good, Bool.and_eq_true] using h
/-- How many children a node of a kind has. -/
theorem good_two {k v : Int} {ds : List Int} {ks : List Co} (h : Co.good (.mk k v ds ks) = true) (hk : k = 5 ∨ k = 3) : ∃ x y, ks = [x, y] ∧ Co.good x = true ∧ Co.good y = true := by
  obtain ⟨h1, h2⟩ := Co.good_mk h
  have hl : ks.length = 2 := by
    simp only [okCo, Bool.and_eq_true] at h1
    have h3 := h1.1
    rcases hk with rfl | rfl <;> simp [coN, inR] at h3 <;> omega
  match ks, hl, h2 with
  | [x, y], _, h2 => exact ⟨x, y, rfl, by simpa [Co.goods] using h2⟩
theorem good_one {k v : Int} {ds : List Int} {ks : List Co} (h : Co.good (.mk k v ds ks) = true) (hk : k = 4 ∨ k = 9 ∨ k = 10) : ∃ x, ks = [x] ∧ Co.good x = true := by
  obtain ⟨h1, h2⟩ := Co.good_mk h
  have hl : ks.length = 1 := by
    simp only [okCo, Bool.and_eq_true] at h1
    have h3 := h1.1
    rcases hk with rfl | rfl | rfl <;> simp [coN, inR] at h3 <;> omega
  match ks, hl, h2 with
  | [x], _, h2 => exact ⟨x, rfl, by simpa [Co.goods] using h2⟩
theorem good_val {k v : Int} {ds : List Int} {ks : List Co} (h : Co.good (.mk k v ds ks) = true) (hk : k = 8 ∨ k = 11) : 0 ≤ v := by
  obtain ⟨h1, _⟩ := Co.good_mk h
  simp only [okCo, Bool.and_eq_true] at h1
  have h3 := h1.2.2.1
  rcases hk with rfl | rfl <;> simp [coVal, inR] at h3 <;> omega
theorem good_var {v : Int} {ds : List Int} {ks : List Co} (h : Co.good (.mk 1 v ds ks) = true) : 0 ≤ v ∧ v ≤ 255 := by
  obtain ⟨h1, _⟩ := Co.good_mk h
  simp only [okCo, Bool.and_eq_true] at h1
  have h3 := h1.2.2.1
  simp [coVal, inR] at h3; omega
theorem good_sw {v : Int} {ds : List Int} {ks : List Co} (h : Co.good (.mk 10 v ds ks) = true) : ds.length = 2 := by
  obtain ⟨h1, _⟩ := Co.good_mk h
  simp only [okCo, Bool.and_eq_true] at h1
  have h3 := h1.2.1
  simp [coN, inR] at h3; omega
theorem ok_good {t : Co} (h : Co.ok t = true) : Co.good t = true := by simp only [Co.ok, Bool.and_eq_true] at h; exact h.1
end Go.Proofs.Ytejdbmeoaekhcaa
