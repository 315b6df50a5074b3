/- A core at an address; what a call gives of which nothing but its form matters. No condition. -/
import Derived.Test.YtejdbmeoaekhcaaRowCo
namespace Go.Proofs.Ytejdbmeoaekhcaa
open Go.ChangeShapes Go.WideShapes Go.ChangeAt Go.RowKit
open Go.Sort (grow)
set_option linter.unusedVariables false

def AtC (w : World) (b o : Nat) : Co → Prop
  | .mk k v ds ks => ∃ (ad : Option Addr) (cd : Nat) (ak : Option Addr) (ck : Nat), w.cell? ⟨b, o, none⟩ = some (.int .i64 k) ∧ w.cell? ⟨b, o + 1, none⟩ = some (.int .i64 v) ∧ w.cell? ⟨b, o + 2, none⟩ = some (.slice ad ds.length cd) ∧ w.cell? ⟨b, o + 3, none⟩ = some (.slice ak ks.length ck) ∧ RdS w (Co.d (.mk k v ds ks)) [.int .i64 k, .int .i64 v, .slice ad ds.length cd, .slice ak ks.length ck]
theorem AtC.below {w w' : World} {b o : Nat} {t : Co} (h : AtC w b o t) (hb : Below w.heap.size w w') : AtC w' b o t := by
  obtain ⟨k, v, ds, ks⟩ := t
  obtain ⟨ad, cd, ak, ck, x0, x1, x2, x3, hr⟩ := h
  have l := World.block_lt_of_cell? _ _ x0
  exact ⟨ad, cd, ak, ck, (hb.cell (p := ⟨b, o, none⟩) l).trans x0, (hb.cell (p := ⟨b, o + 1, none⟩) l).trans x1, (hb.cell (p := ⟨b, o + 2, none⟩) l).trans x2, (hb.cell (p := ⟨b, o + 3, none⟩) l).trans x3, hr.below hb⟩
theorem AtC.box {w : World} {g : Nat} {k v : Int} {ds : List Int} {ks : List Co} {ad ak : Option Addr} {cd ck : Nat} {T : TypeId} (hx : w.heap[g]? = some (.cells #[.int .i64 k, .int .i64 v, .slice ad ds.length cd, .slice ak ks.length ck] T (0, 0))) (hr : RdS w (Co.d (.mk k v ds ks)) [.int .i64 k, .int .i64 v, .slice ad ds.length cd, .slice ak ks.length ck]) : AtC w g 0 (.mk k v ds ks) :=
  ⟨ad, cd, ak, ck, heap_cell hx (j := 0) rfl, heap_cell hx (j := 1) rfl, heap_cell hx (j := 2) rfl, heap_cell hx (j := 3) rfl, hr⟩
/-- The children, wherever the list of them lies. -/
theorem kids_at {w : World} {ks : List Co} {v : Value} (h : RdL w (Co.ds ks) v) : ∃ (a : Option Addr) (c : Nat), v = .slice a ks.length c ∧ ks.length ≤ c ∧ c ≤ 9223372036854775807 ∧ (0 < ks.length → ∃ b o, a = some ⟨b, o, none⟩ ∧ b < w.heap.size ∧ ∀ (i : Nat) (t : Co), ks[i]? = some t → AtC w b (o + i * 4) t) := by
  obtain ⟨a, c, rfl, h2, h3, h4⟩ := h.eCo
  refine ⟨a, c, rfl, h2, h3, fun hp => ?_⟩
  obtain ⟨b, o, rfl, hb, hall⟩ := h4 hp
  refine ⟨b, o, rfl, hb, fun i t ht => ?_⟩
  obtain ⟨k, v, ds, ks'⟩ := t
  obtain ⟨ad, cd, ak, ck, q0, q1, q2, q3, hr⟩ := hall i k v ds ks' ht
  exact ⟨ad, cd, ak, ck, q0, q1, q2, q3, hr⟩
def GivesAny (w : World) (e : Ending) (w' : World) : Prop := ∃ t, GivesC t w e w'
def GivesInt (w : World) (e : Ending) (w' : World) : Prop := ∃ r : Int, e = .returned (.int .i64 r) ∧ Below w.heap.size w w'
def GivesW (w : World) (e : Ending) (w' : World) : Prop := ∃ (k v : Int) (a : Option Addr) (n c : Nat) (a' : Option Addr) (n' c' : Nat), e = .returned (.agg #[.int .i64 k, .int .i64 v, .slice a n c, .slice a' n' c']) ∧ Below w.heap.size w w'
def GivesW2 (w : World) (e : Ending) (w' : World) : Prop := ∃ (k v : Int) (a : Option Addr) (n c : Nat) (a' : Option Addr) (n' c' : Nat) (z : Int), e = .returned (.tuple #[.agg #[.int .i64 k, .int .i64 v, .slice a n c, .slice a' n' c'], .int .i64 z]) ∧ Below w.heap.size w w'
end Go.Proofs.Ytejdbmeoaekhcaa
