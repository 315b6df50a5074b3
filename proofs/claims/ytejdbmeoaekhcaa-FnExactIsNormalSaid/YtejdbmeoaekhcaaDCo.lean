/- Data: Core. No condition. -/
import Derived.Test.YtejdbmeoaekhcaaSc
namespace Go.Proofs.Ytejdbmeoaekhcaa
open Go.RowKit

inductive Co where
  | mk (k : Int) (v : Int) (ds : List Int) (ks : List Co)
mutual
def Co.d : Co → D
  | .mk k v ds ks => .struct [.int k, .int v, .list (In.ds ds), .list (Co.ds ks)]
def Co.ds : List Co → List D
  | [] => []
  | t :: ts => Co.d t :: Co.ds ts
end

mutual
/-- Nodes and letters. -/
def Co.bulk : Co → Nat
  | .mk _ _ ds ks => In.bulks ds + Co.bulks ks
def Co.bulks : List Co → Nat
  | [] => 0
  | t :: ts => 1 + Co.bulk t + Co.bulks ts
end

theorem Co.d_len (t : Co) : (Co.d t).len = 4 := by cases t; simp [Co.d, D.len, D.lens]
theorem Co.ds_length : ∀ ts : List Co, (Co.ds ts).length = ts.length
  | [] => rfl
  | t :: ts => by simp [Co.ds, Co.ds_length ts]
theorem Co.ds_get : ∀ (ts : List Co) (i : Nat), (Co.ds ts)[i]? = (ts[i]?).map Co.d
  | [], i => by simp [Co.ds]
  | t :: ts, 0 => by simp [Co.ds]
  | t :: ts, i + 1 => by simp [Co.ds, Co.ds_get ts i]
theorem Co.ds_snoc : ∀ (ts : List Co) (i : Nat) (t : Co), ts[i]? = some t → Co.ds (ts.take (i + 1)) = Co.ds (ts.take i) ++ [Co.d t]
  | [], i, t, h => by simp at h
  | u :: ts, 0, t, h => by simp at h; subst h; simp [Co.ds]
  | u :: ts, i + 1, t, h => by have := Co.ds_snoc ts i t (by simpa using h); simp [Co.ds, this]
theorem Co.ds_append : ∀ (ts us : List Co), Co.ds (ts ++ us) = Co.ds ts ++ Co.ds us
  | [], us => rfl
  | t :: ts, us => by simp [Co.ds, Co.ds_append ts us]
theorem Co.ds_len : ∀ (ts : List Co), ∀ d ∈ Co.ds ts, d.len = 4
  | [], d, h => by simp [Co.ds] at h
  | t :: ts, d, h => by
    simp only [Co.ds, List.mem_cons] at h
    rcases h with rfl | h
    · exact Co.d_len t
    · exact Co.ds_len ts d h
theorem Co.bulks_length : ∀ ts : List Co, ts.length ≤ Co.bulks ts
  | [] => by simp
  | t :: ts => by have := Co.bulks_length ts; simp [Co.bulks]; omega
theorem Co.bulk_get : ∀ (ts : List Co) (i : Nat) (t : Co), ts[i]? = some t → Co.bulk t < Co.bulks ts
  | [], i, t, h => by simp at h
  | u :: ts, 0, t, h => by simp at h; subst h; simp [Co.bulks]; omega
  | u :: ts, i + 1, t, h => by have := Co.bulk_get ts i t (by simpa using h); simp [Co.bulks]; omega
theorem Co.bulks_take : ∀ (ts : List Co) (i : Nat) (t : Co), ts[i]? = some t → Co.bulks (ts.take (i + 1)) = Co.bulks (ts.take i) + 1 + Co.bulk t
  | [], i, t, h => by simp at h
  | u :: ts, 0, t, h => by simp at h; subst h; simp [Co.bulks]
  | u :: ts, i + 1, t, h => by have := Co.bulks_take ts i t (by simpa using h); simp [Co.bulks] at *; omega
theorem Co.bulks_le : ∀ (ts : List Co) (i : Nat), Co.bulks (ts.take i) + (ts.length - i) ≤ Co.bulks ts
  | [], i => by simp
  | u :: ts, 0 => by have := Co.bulks_length ts; simp [Co.bulks]; omega
  | u :: ts, i + 1 => by have := Co.bulks_le ts i; simp [Co.bulks]; omega
theorem Rd.Co_inv {w : World} {k : Int} {v : Int} {ds : List Int} {ks : List Co} {cs : List Value} {F : List Nat} (h : Rd w (Co.d (Co.mk k v ds ks)) cs F) : ∃ (ads : Option Addr) (cds : Nat) (aks : Option Addr) (cks : Nat), cs = [.int .i64 k, .int .i64 v, .slice ads ds.length cds, .slice aks ks.length cks] ∧ ((-9223372036854775808 ≤ k ∧ k ≤ 9223372036854775807) ∧ (-9223372036854775808 ≤ v ∧ v ≤ 9223372036854775807) ∧ RdL w (In.ds ds) (.slice ads ds.length cds) ∧ RdL w (Co.ds ks) (.slice aks ks.length cks)) := by
  obtain ⟨e1, r1, F1, G1, rfl, rfl, g1, k1⟩ := h.struct_inv.cons_inv
  obtain ⟨rfl, rfl, n1a, n1b⟩ := g1.int_inv
  obtain ⟨e2, r2, F2, G2, rfl, rfl, g2, k2⟩ := k1.cons_inv
  obtain ⟨rfl, rfl, n2a, n2b⟩ := g2.int_inv
  obtain ⟨e3, r3, F3, G3, rfl, rfl, g3, k3⟩ := k2.cons_inv
  obtain ⟨a3, c3, rfl, -⟩ := g3.list_inv
  rw [In.ds_length] at g3
  obtain ⟨e4, r4, F4, G4, rfl, rfl, g4, k4⟩ := k3.cons_inv
  obtain ⟨a4, c4, rfl, -⟩ := g4.list_inv
  rw [Co.ds_length] at g4
  obtain ⟨rfl, rfl⟩ := k4.nil_inv
  refine ⟨a3, c3, a4, c4, by simp [Co.ds_length, In.ds_length], ?_⟩
  exact ⟨⟨n1a, n1b⟩, ⟨n2a, n2b⟩, ⟨F3, g3⟩, ⟨F4, g4⟩⟩
theorem RdS.fCo {w : World} {k : Int} {v : Int} {ds : List Int} {ks : List Co} {ads : Option Addr} {cds : Nat} {aks : Option Addr} {cks : Nat} (h : RdS w (Co.d (Co.mk k v ds ks)) [.int .i64 k, .int .i64 v, .slice ads ds.length cds, .slice aks ks.length cks]) : (-9223372036854775808 ≤ k ∧ k ≤ 9223372036854775807) ∧ (-9223372036854775808 ≤ v ∧ v ≤ 9223372036854775807) ∧ RdL w (In.ds ds) (.slice ads ds.length cds) ∧ RdL w (Co.ds ks) (.slice aks ks.length cks) := by
  obtain ⟨F, h⟩ := h
  obtain ⟨ads', cds', aks', cks', e, hf⟩ := h.Co_inv
  simp only [List.cons.injEq, Value.slice.injEq, true_and, and_true] at e
  obtain ⟨⟨rfl, rfl⟩, ⟨rfl, rfl⟩⟩ := e
  exact hf

/-- A slice of these: the value, and what each element's cells hold. -/
theorem RdL.eCo {w : World} {ts : List Co} {v : Value} (h : RdL w (Co.ds ts) v) : ∃ (a : Option Addr) (cap : Nat), v = .slice a ts.length cap ∧ ts.length ≤ cap ∧ cap ≤ 9223372036854775807 ∧
    (0 < ts.length → ∃ b o, a = some ⟨b, o, none⟩ ∧ b < w.heap.size ∧ ∀ (i : Nat) (k : Int) (v : Int) (ds : List Int) (ks : List Co), ts[i]? = some (Co.mk k v ds ks) → ∃ (ads : Option Addr) (cds : Nat) (aks : Option Addr) (cks : Nat), 
      w.cell? ⟨b, o + i * 4, none⟩ = some (.int .i64 k) ∧ w.cell? ⟨b, o + i * 4 + 1, none⟩ = some (.int .i64 v) ∧ w.cell? ⟨b, o + i * 4 + 2, none⟩ = some (.slice ads ds.length cds) ∧ w.cell? ⟨b, o + i * 4 + 3, none⟩ = some (.slice aks ks.length cks) ∧ RdS w (Co.d (Co.mk k v ds ks)) [.int .i64 k, .int .i64 v, .slice ads ds.length cds, .slice aks ks.length cks]) := by
  obtain ⟨F, h⟩ := h
  obtain ⟨a, cap, h1, h2, h3, h4⟩ := h.list_inv
  rw [Co.ds_length] at h1 h2
  simp only [List.cons.injEq, and_true] at h1
  refine ⟨a, cap, h1, h2, h3, fun hp => ?_⟩
  rcases h4 with ⟨h4, _⟩ | ⟨b, o, xs, F', _, rfl, rfl, hb, hx, hr⟩
  · have := congrArg List.length h4; rw [Co.ds_length] at this; simp at this; simp [this] at hp
  · refine ⟨b, o, rfl, hb, fun i k v ds ks hi => ?_⟩
    obtain ⟨cs, Fi, k1, k2, _⟩ := hr.get (Co.ds_len ts) (i := i) (d := Co.d (Co.mk k v ds ks)) (by rw [Co.ds_get, hi]; rfl)
    obtain ⟨ads, cds, aks, cks, e, -⟩ := k2.Co_inv
    subst e
    refine ⟨ads, cds, aks, cks, ?_, ?_, ?_, ?_, ⟨Fi, k2⟩⟩
    · have := hx _ _ (k1 0 (.int .i64 k) rfl); simpa [Nat.add_assoc] using this
    · have := hx _ _ (k1 1 (.int .i64 v) rfl); simpa [Nat.add_assoc] using this
    · have := hx _ _ (k1 2 (.slice ads ds.length cds) rfl); simpa [Nat.add_assoc] using this
    · have := hx _ _ (k1 3 (.slice aks ks.length cks) rfl); simpa [Nat.add_assoc] using this

end Go.Proofs.Ytejdbmeoaekhcaa
