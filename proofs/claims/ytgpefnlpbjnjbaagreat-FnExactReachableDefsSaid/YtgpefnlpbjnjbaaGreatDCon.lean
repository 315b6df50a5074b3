/- Data: Constructor. No condition. -/
import Derived.Test.YtgpefnlpbjnjbaaGreatDTy
namespace Go.Proofs.YtgpefnlpbjnjbaaGreat
open Go.RowKit

inductive Con where
  | mk (n : ByteArray) (fs : List Ty)
def Con.d : Con → D
  | .mk n fs => .struct [.str n, .list (Ty.ds fs)]
def Con.ds : List Con → List D
  | [] => []
  | t :: ts => Con.d t :: Con.ds ts

/-- Nodes and letters. -/
def Con.bulk : Con → Nat
  | .mk n fs => n.size + Ty.bulks fs
def Con.bulks : List Con → Nat
  | [] => 0
  | t :: ts => 1 + Con.bulk t + Con.bulks ts

theorem Con.d_len (t : Con) : (Con.d t).len = 2 := by cases t; simp [Con.d, D.len, D.lens]
theorem Con.ds_length : ∀ ts : List Con, (Con.ds ts).length = ts.length
  | [] => rfl
  | t :: ts => by simp [Con.ds, Con.ds_length ts]
theorem Con.ds_get : ∀ (ts : List Con) (i : Nat), (Con.ds ts)[i]? = (ts[i]?).map Con.d
  | [], i => by simp [Con.ds]
  | t :: ts, 0 => by simp [Con.ds]
  | t :: ts, i + 1 => by simp [Con.ds, Con.ds_get ts i]
theorem Con.ds_snoc : ∀ (ts : List Con) (i : Nat) (t : Con), ts[i]? = some t → Con.ds (ts.take (i + 1)) = Con.ds (ts.take i) ++ [Con.d t]
  | [], i, t, h => by simp at h
  | u :: ts, 0, t, h => by simp at h; subst h; simp [Con.ds]
  | u :: ts, i + 1, t, h => by have := Con.ds_snoc ts i t (by simpa using h); simp [Con.ds, this]
theorem Con.ds_append : ∀ (ts us : List Con), Con.ds (ts ++ us) = Con.ds ts ++ Con.ds us
  | [], us => rfl
  | t :: ts, us => by simp [Con.ds, Con.ds_append ts us]
theorem Con.ds_len : ∀ (ts : List Con), ∀ d ∈ Con.ds ts, d.len = 2
  | [], d, h => by simp [Con.ds] at h
  | t :: ts, d, h => by
    simp only [Con.ds, List.mem_cons] at h
    rcases h with rfl | h
    · exact Con.d_len t
    · exact Con.ds_len ts d h
theorem Con.bulks_length : ∀ ts : List Con, ts.length ≤ Con.bulks ts
  | [] => by simp
  | t :: ts => by have := Con.bulks_length ts; simp [Con.bulks]; omega
theorem Con.bulk_get : ∀ (ts : List Con) (i : Nat) (t : Con), ts[i]? = some t → Con.bulk t < Con.bulks ts
  | [], i, t, h => by simp at h
  | u :: ts, 0, t, h => by simp at h; subst h; simp [Con.bulks]; omega
  | u :: ts, i + 1, t, h => by have := Con.bulk_get ts i t (by simpa using h); simp [Con.bulks]; omega
theorem Con.bulks_take : ∀ (ts : List Con) (i : Nat) (t : Con), ts[i]? = some t → Con.bulks (ts.take (i + 1)) = Con.bulks (ts.take i) + 1 + Con.bulk t
  | [], i, t, h => by simp at h
  | u :: ts, 0, t, h => by simp at h; subst h; simp [Con.bulks]
  | u :: ts, i + 1, t, h => by have := Con.bulks_take ts i t (by simpa using h); simp [Con.bulks] at *; omega
theorem Con.bulks_le : ∀ (ts : List Con) (i : Nat), Con.bulks (ts.take i) + (ts.length - i) ≤ Con.bulks ts
  | [], i => by simp
  | u :: ts, 0 => by have := Con.bulks_length ts; simp [Con.bulks]; omega
  | u :: ts, i + 1 => by have := Con.bulks_le ts i; simp [Con.bulks]; omega
theorem Rd.Con_inv {w : World} {n : ByteArray} {fs : List Ty} {cs : List Value} {F : List Nat} (h : Rd w (Con.d (Con.mk n fs)) cs F) : ∃ (afs : Option Addr) (cfs : Nat), cs = [.string n, .slice afs fs.length cfs] ∧ (n.size ≤ 9223372036854775807 ∧ RdL w (Ty.ds fs) (.slice afs fs.length cfs)) := by
  obtain ⟨e1, r1, F1, G1, rfl, rfl, g1, k1⟩ := h.struct_inv.cons_inv
  obtain ⟨rfl, rfl, n1⟩ := g1.str_inv
  obtain ⟨e2, r2, F2, G2, rfl, rfl, g2, k2⟩ := k1.cons_inv
  obtain ⟨a2, c2, rfl, -⟩ := g2.list_inv
  rw [Ty.ds_length] at g2
  obtain ⟨rfl, rfl⟩ := k2.nil_inv
  refine ⟨a2, c2, by simp [Ty.ds_length], ?_⟩
  exact ⟨n1, ⟨F2, g2⟩⟩
theorem RdS.fCon {w : World} {n : ByteArray} {fs : List Ty} {afs : Option Addr} {cfs : Nat} (h : RdS w (Con.d (Con.mk n fs)) [.string n, .slice afs fs.length cfs]) : n.size ≤ 9223372036854775807 ∧ RdL w (Ty.ds fs) (.slice afs fs.length cfs) := by
  obtain ⟨F, h⟩ := h
  obtain ⟨afs', cfs', e, hf⟩ := h.Con_inv
  simp only [List.cons.injEq, Value.slice.injEq, true_and, and_true] at e
  obtain ⟨rfl, rfl⟩ := e
  exact hf

/-- A slice of these: the value, and what each element's cells hold. -/
theorem RdL.eCon {w : World} {ts : List Con} {v : Value} (h : RdL w (Con.ds ts) v) : ∃ (a : Option Addr) (cap : Nat), v = .slice a ts.length cap ∧ ts.length ≤ cap ∧ cap ≤ 9223372036854775807 ∧
    (0 < ts.length → ∃ b o, a = some ⟨b, o, none⟩ ∧ b < w.heap.size ∧ ∀ (i : Nat) (n : ByteArray) (fs : List Ty), ts[i]? = some (Con.mk n fs) → ∃ (afs : Option Addr) (cfs : Nat), 
      w.cell? ⟨b, o + i * 2, none⟩ = some (.string n) ∧ w.cell? ⟨b, o + i * 2 + 1, none⟩ = some (.slice afs fs.length cfs) ∧ RdS w (Con.d (Con.mk n fs)) [.string n, .slice afs fs.length cfs]) := by
  obtain ⟨F, h⟩ := h
  obtain ⟨a, cap, h1, h2, h3, h4⟩ := h.list_inv
  rw [Con.ds_length] at h1 h2
  simp only [List.cons.injEq, and_true] at h1
  refine ⟨a, cap, h1, h2, h3, fun hp => ?_⟩
  rcases h4 with ⟨h4, _⟩ | ⟨b, o, xs, F', _, rfl, rfl, hb, hx, hr⟩
  · have := congrArg List.length h4; rw [Con.ds_length] at this; simp at this; simp [this] at hp
  · refine ⟨b, o, rfl, hb, fun i n fs hi => ?_⟩
    obtain ⟨cs, Fi, k1, k2, _⟩ := hr.get (Con.ds_len ts) (i := i) (d := Con.d (Con.mk n fs)) (by rw [Con.ds_get, hi]; rfl)
    obtain ⟨afs, cfs, e, -⟩ := k2.Con_inv
    subst e
    refine ⟨afs, cfs, ?_, ?_, ⟨Fi, k2⟩⟩
    · have := hx _ _ (k1 0 (.string n) rfl); simpa [Nat.add_assoc] using this
    · have := hx _ _ (k1 1 (.slice afs fs.length cfs) rfl); simpa [Nat.add_assoc] using this

end Go.Proofs.YtgpefnlpbjnjbaaGreat
