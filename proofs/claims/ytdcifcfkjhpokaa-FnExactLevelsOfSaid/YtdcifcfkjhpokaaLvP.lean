/- The levels of a name's free occurrences: plain facts. No condition. -/
import Derived.Test.YtdcifcfkjhpokaaUsesP
import Derived.Test.YtdcifcfkjhpokaaTmBoxP
namespace Go.Proofs.Ytdcifcfkjhpokaa
open Go.RowKit

def offOf (bs : List ByteArray) (s : ByteArray) (x : List Int) : List Int := if hasStr bs s = true then [] else x
mutual
def Tm.levs (s : ByteArray) : Tm → Int → List Int
  | .mk k _ n _ ns ks, l => if k = 1 then (if n = s then [l] else []) else Tm.levss s k n ns 0 ks (l + isBox k)
def Tm.levss (s : ByteArray) (k : Int) (n : ByteArray) (ns : List ByteArray) : Nat → List Tm → Int → List Int
  | _, [], _ => []
  | i, t :: ts, l => offOf (boundOf k n ns i) s (Tm.levs s t l) ++ Tm.levss s k n ns (i + 1) ts l
end
theorem Tm.levss_take (s : ByteArray) (k : Int) (n : ByteArray) (ns : List ByteArray) : ∀ (ts : List Tm) (i j : Nat) (t : Tm) (l : Int), ts[j]? = some t → Tm.levss s k n ns i (ts.take (j + 1)) l = Tm.levss s k n ns i (ts.take j) l ++ offOf (boundOf k n ns (i + j)) s (Tm.levs s t l)
  | [], i, j, t, l, h => by simp at h
  | u :: ts, i, 0, t, l, h => by simp at h; subst h; simp [Tm.levss]
  | u :: ts, i, j + 1, t, l, h => by
    have := Tm.levss_take s k n ns ts (i + 1) j t l (by simpa using h)
    rw [show i + 1 + j = i + (j + 1) by omega] at this
    rw [List.take_succ_cons, List.take_succ_cons, Tm.levss, Tm.levss, this, List.append_assoc]
mutual
theorem Tm.levs_len (s : ByteArray) : ∀ (t : Tm) (l : Int), (Tm.levs s t l).length ≤ 1 + Tm.bulk t
  | .mk k u n t ns ks, l => by
    have h := Tm.levss_len s k n ns 0 ks (l + isBox k)
    rw [Tm.levs]
    split
    · split <;> simp
    · simp only [Tm.bulk]; omega
theorem Tm.levss_len (s : ByteArray) (k : Int) (n : ByteArray) (ns : List ByteArray) : ∀ (i : Nat) (ts : List Tm) (l : Int), (Tm.levss s k n ns i ts l).length ≤ Tm.bulks ts
  | i, [], l => by simp [Tm.levss]
  | i, t :: ts, l => by
    have h := Tm.levs_len s t l
    have h2 := Tm.levss_len s k n ns (i + 1) ts l
    have h3 : (offOf (boundOf k n ns i) s (Tm.levs s t l)).length ≤ 1 + Tm.bulk t := by
      unfold offOf
      split
      · simp
      · exact h
    rw [Tm.levss, List.length_append, Tm.bulks]; omega
end
theorem Tm.boxds_add (b : Nat) : ∀ ts : List Tm, ts ≠ [] → Tm.boxds 0 ts + b ≤ Tm.boxds b ts
  | [], h => absurd rfl h
  | [t], _ => by simp [Tm.boxds]
  | t :: u :: ts, _ => by have := Tm.boxds_add b (u :: ts) (by simp); simp only [Tm.boxds] at this ⊢; omega
mutual
theorem Tm.levs_in (s : ByteArray) : ∀ (t : Tm) (l : Int), 0 ≤ l → ∀ x ∈ Tm.levs s t l, 0 ≤ x ∧ x ≤ l + Tm.boxd t
  | .mk k u n t ns ks, l, hl, x, hx => by
    rw [Tm.levs] at hx
    split at hx
    · split at hx
      · simp at hx; subst hx; omega
      · simp at hx
    · have := Tm.levss_in s k n ns 0 ks (l + isBox k) (by omega) x hx
      rw [Tm.boxd]
      have h2 := Tm.boxds_add (isBox k) ks
      rcases this with ⟨h0, h1⟩
      by_cases hk : ks = []
      · subst hk; simp [Tm.levss] at hx
      · have := h2 hk; omega
theorem Tm.levss_in (s : ByteArray) (k : Int) (n : ByteArray) (ns : List ByteArray) : ∀ (i : Nat) (ts : List Tm) (l : Int), 0 ≤ l → ∀ x ∈ Tm.levss s k n ns i ts l, 0 ≤ x ∧ x ≤ l + Tm.boxds 0 ts
  | i, [], l, hl, x, hx => by simp [Tm.levss] at hx
  | i, t :: ts, l, hl, x, hx => by
    rw [Tm.levss] at hx
    rw [Tm.boxds]
    rcases List.mem_append.1 hx with hx | hx
    · have hm : x ∈ Tm.levs s t l := by
        unfold offOf at hx
        split at hx
        · simp at hx
        · exact hx
      have := Tm.levs_in s t l hl x hm
      omega
    · have := Tm.levss_in s k n ns (i + 1) ts l hl x hx
      omega
end
def levN (t : Tm) (s : ByteArray) : List Int := if Tm.ok t then Tm.levs s t 0 else []
theorem levN_yes {t : Tm} (s : ByteArray) (h : Tm.ok t = true) : levN t s = Tm.levs s t 0 := if_pos h
theorem levN_no {t : Tm} (s : ByteArray) (h : Tm.ok t = false) : levN t s = [] := by rw [levN, h]; rfl
theorem levN_in (t : Tm) (s : ByteArray) (hM : Tm.bulk t ≤ 1048576) : ∀ x ∈ levN t s, -9223372036854775808 ≤ x ∧ x ≤ 9223372036854775807 := by
  intro x hx
  unfold levN at hx
  split at hx
  · have h1 := Tm.levs_in s t 0 (by omega) x hx
    have h2 := Tm.boxd_le t
    have h3 := Tm.cnt_le t
    omega
  · simp at hx
theorem levN_len (t : Tm) (s : ByteArray) : (levN t s).length ≤ 1 + Tm.bulk t := by
  unfold levN
  split
  · exact Tm.levs_len s t 0
  · simp
theorem Tm.levs_var (s : ByteArray) (u : Int) (n : ByteArray) (t : Ty) (ns : List ByteArray) (ks : List Tm) (l : Int) : Tm.levs s (.mk 1 u n t ns ks) l = if n = s then [l] else [] := by rw [Tm.levs]; rfl
theorem Tm.levs_mk (s : ByteArray) {k : Int} (hk : k ≠ 1) (u : Int) (n : ByteArray) (t : Ty) (ns : List ByteArray) (ks : List Tm) (l : Int) : Tm.levs s (.mk k u n t ns ks) l = Tm.levss s k n ns 0 ks (l + isBox k) := by rw [Tm.levs, if_neg hk]
end Go.Proofs.Ytdcifcfkjhpokaa
