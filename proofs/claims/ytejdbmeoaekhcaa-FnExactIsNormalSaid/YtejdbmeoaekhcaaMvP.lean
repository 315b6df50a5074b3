/- A core with its free variables raised: plain facts. No condition. -/
import Derived.Test.YtejdbmeoaekhcaaCoAbove
import Derived.Test.YtejdbmeoaekhcaaNorP
namespace Go.Proofs.Ytejdbmeoaekhcaa
open Go.RowKit

mutual
def Co.sh (b : Int) : Co → Int → Co
  | .mk k v ds ks, f => .mk k (if k = 1 then (if f ≤ v then wrap64 (v + b) else v) else v) ds (Co.shs b k 0 ks f)
def Co.shs (b : Int) : Int → Nat → List Co → Int → List Co
  | _, _, [], _ => []
  | k, i, t :: ts, f => Co.sh b t (wrap64 (f + bindsOf k i)) :: Co.shs b k (i + 1) ts f
end
theorem Co.sh_mk (b k v : Int) (ds : List Int) (ks : List Co) (f : Int) : Co.sh b (.mk k v ds ks) f = .mk k (if k = 1 then (if f ≤ v then wrap64 (v + b) else v) else v) ds (Co.shs b k 0 ks f) := by rw [Co.sh]
theorem Co.shs_length (b : Int) : ∀ (k : Int) (i : Nat) (ts : List Co) (f : Int), (Co.shs b k i ts f).length = ts.length
  | k, i, [], f => by rw [Co.shs]
  | k, i, t :: ts, f => by rw [Co.shs, List.length_cons, List.length_cons, Co.shs_length b k (i + 1) ts f]
theorem Co.shs_snoc (b : Int) : ∀ (k : Int) (i : Nat) (ts : List Co) (f : Int) (j : Nat) (t : Co), ts[j]? = some t → Co.ds (Co.shs b k i (ts.take (j + 1)) f) = Co.ds (Co.shs b k i (ts.take j) f) ++ [Co.d (Co.sh b t (wrap64 (f + bindsOf k (i + j : Nat))))]
  | k, i, [], f, j, t, h => by simp at h
  | k, i, u :: ts, f, 0, t, h => by simp at h; subst h; simp [Co.shs, Co.ds]
  | k, i, u :: ts, f, j + 1, t, h => by
    have e := Co.shs_snoc b k (i + 1) ts f j t (by simpa using h)
    rw [List.take_succ_cons, List.take_succ_cons, Co.shs, Co.shs, Co.ds, Co.ds, e, List.cons_append, show i + 1 + j = i + (j + 1) by omega]
theorem wrap64_in' {n : Int} (h1 : -9223372036854775808 ≤ n) (h2 : n ≤ 9223372036854775807) : wrap64 n = n := by unfold wrap64; omega
theorem wrap64_lo (n : Int) : -9223372036854775808 ≤ wrap64 n ∧ wrap64 n ≤ 9223372036854775807 := by unfold wrap64; omega
mutual
theorem Co.sh_zero : ∀ (t : Co) (f : Int), Co.good t = true → Co.sh 0 t f = t
  | .mk k v ds ks, f, h => by
    rw [Co.sh_mk, Co.shs_zero k 0 ks f (Co.good_mk h).2]
    by_cases h1 : k = 1
    · subst h1
      have := good_var h
      rw [if_pos rfl, Int.add_zero, wrap64_in' (by omega) (by omega)]
      split <;> rfl
    · rw [if_neg h1]
theorem Co.shs_zero : ∀ (k : Int) (i : Nat) (ts : List Co) (f : Int), Co.goods ts = true → Co.shs 0 k i ts f = ts
  | k, i, [], f, _ => by rw [Co.shs]
  | k, i, t :: ts, f, h => by
    simp only [Co.goods, Bool.and_eq_true] at h
    rw [Co.shs, Co.sh_zero t _ h.1, Co.shs_zero k (i + 1) ts f h.2]
end
theorem Co.eta : ∀ t : Co, ∃ k v ds ks, t = Co.mk k v ds ks
  | .mk k v ds ks => ⟨k, v, ds, ks, rfl⟩
end Go.Proofs.Ytejdbmeoaekhcaa
