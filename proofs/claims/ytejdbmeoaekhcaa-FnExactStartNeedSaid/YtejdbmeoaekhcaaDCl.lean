/- Data: Closure. No condition. -/
import Derived.Test.YtejdbmeoaekhcaaDCo
namespace Go.Proofs.Ytejdbmeoaekhcaa
open Go.RowKit

inductive Cl where
  | mk (t : Co) (es : List Int)
def Cl.d : Cl → D
  | .mk t es => .struct [Co.d t, .list (In.ds es)]
def Cl.ds : List Cl → List D
  | [] => []
  | t :: ts => Cl.d t :: Cl.ds ts

/-- Nodes and letters. -/
def Cl.bulk : Cl → Nat
  | .mk t es => Co.bulk t + In.bulks es
def Cl.bulks : List Cl → Nat
  | [] => 0
  | t :: ts => 1 + Cl.bulk t + Cl.bulks ts

theorem Cl.d_len (t : Cl) : (Cl.d t).len = 5 := by cases t; simp [Cl.d, D.len, D.lens, Co.d_len]
theorem Cl.ds_length : ∀ ts : List Cl, (Cl.ds ts).length = ts.length
  | [] => rfl
  | t :: ts => by simp [Cl.ds, Cl.ds_length ts]
theorem Cl.ds_get : ∀ (ts : List Cl) (i : Nat), (Cl.ds ts)[i]? = (ts[i]?).map Cl.d
  | [], i => by simp [Cl.ds]
  | t :: ts, 0 => by simp [Cl.ds]
  | t :: ts, i + 1 => by simp [Cl.ds, Cl.ds_get ts i]
theorem Cl.ds_snoc : ∀ (ts : List Cl) (i : Nat) (t : Cl), ts[i]? = some t → Cl.ds (ts.take (i + 1)) = Cl.ds (ts.take i) ++ [Cl.d t]
  | [], i, t, h => by simp at h
  | u :: ts, 0, t, h => by simp at h; subst h; simp [Cl.ds]
  | u :: ts, i + 1, t, h => by have := Cl.ds_snoc ts i t (by simpa using h); simp [Cl.ds, this]
theorem Cl.ds_append : ∀ (ts us : List Cl), Cl.ds (ts ++ us) = Cl.ds ts ++ Cl.ds us
  | [], us => rfl
  | t :: ts, us => by simp [Cl.ds, Cl.ds_append ts us]
theorem Cl.ds_len : ∀ (ts : List Cl), ∀ d ∈ Cl.ds ts, d.len = 5
  | [], d, h => by simp [Cl.ds] at h
  | t :: ts, d, h => by
    simp only [Cl.ds, List.mem_cons] at h
    rcases h with rfl | h
    · exact Cl.d_len t
    · exact Cl.ds_len ts d h
theorem Cl.bulks_length : ∀ ts : List Cl, ts.length ≤ Cl.bulks ts
  | [] => by simp
  | t :: ts => by have := Cl.bulks_length ts; simp [Cl.bulks]; omega
theorem Cl.bulk_get : ∀ (ts : List Cl) (i : Nat) (t : Cl), ts[i]? = some t → Cl.bulk t < Cl.bulks ts
  | [], i, t, h => by simp at h
  | u :: ts, 0, t, h => by simp at h; subst h; simp [Cl.bulks]; omega
  | u :: ts, i + 1, t, h => by have := Cl.bulk_get ts i t (by simpa using h); simp [Cl.bulks]; omega
theorem Cl.bulks_take : ∀ (ts : List Cl) (i : Nat) (t : Cl), ts[i]? = some t → Cl.bulks (ts.take (i + 1)) = Cl.bulks (ts.take i) + 1 + Cl.bulk t
  | [], i, t, h => by simp at h
  | u :: ts, 0, t, h => by simp at h; subst h; simp [Cl.bulks]
  | u :: ts, i + 1, t, h => by have := Cl.bulks_take ts i t (by simpa using h); simp [Cl.bulks] at *; omega
theorem Cl.bulks_le : ∀ (ts : List Cl) (i : Nat), Cl.bulks (ts.take i) + (ts.length - i) ≤ Cl.bulks ts
  | [], i => by simp
  | u :: ts, 0 => by have := Cl.bulks_length ts; simp [Cl.bulks]; omega
  | u :: ts, i + 1 => by have := Cl.bulks_le ts i; simp [Cl.bulks]; omega
theorem Rd.Cl_inv {w : World} {tk : Int} {tv : Int} {tds : List Int} {tks : List Co} {es : List Int} {cs : List Value} {F : List Nat} (h : Rd w (Cl.d (Cl.mk (Co.mk tk tv tds tks) es)) cs F) : ∃ (atds : Option Addr) (ctds : Nat) (atks : Option Addr) (ctks : Nat) (aes : Option Addr) (ces : Nat), cs = [.int .i64 tk, .int .i64 tv, .slice atds tds.length ctds, .slice atks tks.length ctks, .slice aes es.length ces] ∧ (((-9223372036854775808 ≤ tk ∧ tk ≤ 9223372036854775807) ∧ (-9223372036854775808 ≤ tv ∧ tv ≤ 9223372036854775807) ∧ RdL w (In.ds tds) (.slice atds tds.length ctds) ∧ RdL w (Co.ds tks) (.slice atks tks.length ctks)) ∧ RdL w (In.ds es) (.slice aes es.length ces)) := by
  obtain ⟨e1, r1, F1, G1, rfl, rfl, g1, k1⟩ := h.struct_inv.cons_inv
  obtain ⟨a1_ds, c1_ds, a1_ks, c1_ks, rfl, n1⟩ := g1.Co_inv
  obtain ⟨e2, r2, F2, G2, rfl, rfl, g2, k2⟩ := k1.cons_inv
  obtain ⟨a2, c2, rfl, -⟩ := g2.list_inv
  rw [In.ds_length] at g2
  obtain ⟨rfl, rfl⟩ := k2.nil_inv
  refine ⟨a1_ds, c1_ds, a1_ks, c1_ks, a2, c2, by simp [In.ds_length], ?_⟩
  exact ⟨n1, ⟨F2, g2⟩⟩
theorem RdS.fCl {w : World} {tk : Int} {tv : Int} {tds : List Int} {tks : List Co} {es : List Int} {atds : Option Addr} {ctds : Nat} {atks : Option Addr} {ctks : Nat} {aes : Option Addr} {ces : Nat} (h : RdS w (Cl.d (Cl.mk (Co.mk tk tv tds tks) es)) [.int .i64 tk, .int .i64 tv, .slice atds tds.length ctds, .slice atks tks.length ctks, .slice aes es.length ces]) : ((-9223372036854775808 ≤ tk ∧ tk ≤ 9223372036854775807) ∧ (-9223372036854775808 ≤ tv ∧ tv ≤ 9223372036854775807) ∧ RdL w (In.ds tds) (.slice atds tds.length ctds) ∧ RdL w (Co.ds tks) (.slice atks tks.length ctks)) ∧ RdL w (In.ds es) (.slice aes es.length ces) := by
  obtain ⟨F, h⟩ := h
  obtain ⟨atds', ctds', atks', ctks', aes', ces', e, hf⟩ := h.Cl_inv
  simp only [List.cons.injEq, Value.slice.injEq, true_and, and_true] at e
  obtain ⟨⟨rfl, rfl⟩, ⟨rfl, rfl⟩, ⟨rfl, rfl⟩⟩ := e
  exact hf

/-- A slice of these: the value, and what each element's cells hold. -/
theorem RdL.eCl {w : World} {ts : List Cl} {v : Value} (h : RdL w (Cl.ds ts) v) : ∃ (a : Option Addr) (cap : Nat), v = .slice a ts.length cap ∧ ts.length ≤ cap ∧ cap ≤ 9223372036854775807 ∧
    (0 < ts.length → ∃ b o, a = some ⟨b, o, none⟩ ∧ b < w.heap.size ∧ ∀ (i : Nat) (tk : Int) (tv : Int) (tds : List Int) (tks : List Co) (es : List Int), ts[i]? = some (Cl.mk (Co.mk tk tv tds tks) es) → ∃ (atds : Option Addr) (ctds : Nat) (atks : Option Addr) (ctks : Nat) (aes : Option Addr) (ces : Nat), 
      w.cell? ⟨b, o + i * 5, none⟩ = some (.int .i64 tk) ∧ w.cell? ⟨b, o + i * 5 + 1, none⟩ = some (.int .i64 tv) ∧ w.cell? ⟨b, o + i * 5 + 2, none⟩ = some (.slice atds tds.length ctds) ∧ w.cell? ⟨b, o + i * 5 + 3, none⟩ = some (.slice atks tks.length ctks) ∧ w.cell? ⟨b, o + i * 5 + 4, none⟩ = some (.slice aes es.length ces) ∧ RdS w (Cl.d (Cl.mk (Co.mk tk tv tds tks) es)) [.int .i64 tk, .int .i64 tv, .slice atds tds.length ctds, .slice atks tks.length ctks, .slice aes es.length ces]) := by
  obtain ⟨F, h⟩ := h
  obtain ⟨a, cap, h1, h2, h3, h4⟩ := h.list_inv
  rw [Cl.ds_length] at h1 h2
  simp only [List.cons.injEq, and_true] at h1
  refine ⟨a, cap, h1, h2, h3, fun hp => ?_⟩
  rcases h4 with ⟨h4, _⟩ | ⟨b, o, xs, F', _, rfl, rfl, hb, hx, hr⟩
  · have := congrArg List.length h4; rw [Cl.ds_length] at this; simp at this; simp [this] at hp
  · refine ⟨b, o, rfl, hb, fun i tk tv tds tks es hi => ?_⟩
    obtain ⟨cs, Fi, k1, k2, _⟩ := hr.get (Cl.ds_len ts) (i := i) (d := Cl.d (Cl.mk (Co.mk tk tv tds tks) es)) (by rw [Cl.ds_get, hi]; rfl)
    obtain ⟨atds, ctds, atks, ctks, aes, ces, e, -⟩ := k2.Cl_inv
    subst e
    refine ⟨atds, ctds, atks, ctks, aes, ces, ?_, ?_, ?_, ?_, ?_, ⟨Fi, k2⟩⟩
    · have := hx _ _ (k1 0 (.int .i64 tk) rfl); simpa [Nat.add_assoc] using this
    · have := hx _ _ (k1 1 (.int .i64 tv) rfl); simpa [Nat.add_assoc] using this
    · have := hx _ _ (k1 2 (.slice atds tds.length ctds) rfl); simpa [Nat.add_assoc] using this
    · have := hx _ _ (k1 3 (.slice atks tks.length ctks) rfl); simpa [Nat.add_assoc] using this
    · have := hx _ _ (k1 4 (.slice aes es.length ces) rfl); simpa [Nat.add_assoc] using this

end Go.Proofs.Ytejdbmeoaekhcaa
