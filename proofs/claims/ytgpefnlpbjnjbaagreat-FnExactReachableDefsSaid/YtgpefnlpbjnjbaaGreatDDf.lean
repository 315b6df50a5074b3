/- Data: Def. No condition. -/
import Derived.Test.YtgpefnlpbjnjbaaGreatDTm
import Derived.Test.YtgpefnlpbjnjbaaGreatDTy
namespace Go.Proofs.YtgpefnlpbjnjbaaGreat
open Go.RowKit

inductive Df where
  | mk (n : ByteArray) (t : Ty) (b : Tm)
def Df.d : Df → D
  | .mk n t b => .struct [.str n, Ty.d t, Tm.d b]
def Df.ds : List Df → List D
  | [] => []
  | t :: ts => Df.d t :: Df.ds ts

/-- Nodes and letters. -/
def Df.bulk : Df → Nat
  | .mk n t b => n.size + Ty.bulk t + Tm.bulk b
def Df.bulks : List Df → Nat
  | [] => 0
  | t :: ts => 1 + Df.bulk t + Df.bulks ts

theorem Df.d_len (t : Df) : (Df.d t).len = 12 := by cases t; simp [Df.d, D.len, D.lens, Tm.d_len, Ty.d_len]
theorem Df.ds_length : ∀ ts : List Df, (Df.ds ts).length = ts.length
  | [] => rfl
  | t :: ts => by simp [Df.ds, Df.ds_length ts]
theorem Df.ds_get : ∀ (ts : List Df) (i : Nat), (Df.ds ts)[i]? = (ts[i]?).map Df.d
  | [], i => by simp [Df.ds]
  | t :: ts, 0 => by simp [Df.ds]
  | t :: ts, i + 1 => by simp [Df.ds, Df.ds_get ts i]
theorem Df.ds_snoc : ∀ (ts : List Df) (i : Nat) (t : Df), ts[i]? = some t → Df.ds (ts.take (i + 1)) = Df.ds (ts.take i) ++ [Df.d t]
  | [], i, t, h => by simp at h
  | u :: ts, 0, t, h => by simp at h; subst h; simp [Df.ds]
  | u :: ts, i + 1, t, h => by have := Df.ds_snoc ts i t (by simpa using h); simp [Df.ds, this]
theorem Df.ds_append : ∀ (ts us : List Df), Df.ds (ts ++ us) = Df.ds ts ++ Df.ds us
  | [], us => rfl
  | t :: ts, us => by simp [Df.ds, Df.ds_append ts us]
theorem Df.ds_len : ∀ (ts : List Df), ∀ d ∈ Df.ds ts, d.len = 12
  | [], d, h => by simp [Df.ds] at h
  | t :: ts, d, h => by
    simp only [Df.ds, List.mem_cons] at h
    rcases h with rfl | h
    · exact Df.d_len t
    · exact Df.ds_len ts d h
theorem Df.bulks_length : ∀ ts : List Df, ts.length ≤ Df.bulks ts
  | [] => by simp
  | t :: ts => by have := Df.bulks_length ts; simp [Df.bulks]; omega
theorem Df.bulk_get : ∀ (ts : List Df) (i : Nat) (t : Df), ts[i]? = some t → Df.bulk t < Df.bulks ts
  | [], i, t, h => by simp at h
  | u :: ts, 0, t, h => by simp at h; subst h; simp [Df.bulks]; omega
  | u :: ts, i + 1, t, h => by have := Df.bulk_get ts i t (by simpa using h); simp [Df.bulks]; omega
theorem Df.bulks_take : ∀ (ts : List Df) (i : Nat) (t : Df), ts[i]? = some t → Df.bulks (ts.take (i + 1)) = Df.bulks (ts.take i) + 1 + Df.bulk t
  | [], i, t, h => by simp at h
  | u :: ts, 0, t, h => by simp at h; subst h; simp [Df.bulks]
  | u :: ts, i + 1, t, h => by have := Df.bulks_take ts i t (by simpa using h); simp [Df.bulks] at *; omega
theorem Df.bulks_le : ∀ (ts : List Df) (i : Nat), Df.bulks (ts.take i) + (ts.length - i) ≤ Df.bulks ts
  | [], i => by simp
  | u :: ts, 0 => by have := Df.bulks_length ts; simp [Df.bulks]; omega
  | u :: ts, i + 1 => by have := Df.bulks_le ts i; simp [Df.bulks]; omega
theorem Rd.Df_inv {w : World} {n : ByteArray} {tk : Int} {tn : ByteArray} {tks : List Ty} {bk : Int} {bu : Int} {bn : ByteArray} {btk : Int} {btn : ByteArray} {btks : List Ty} {bns : List ByteArray} {bks : List Tm} {cs : List Value} {F : List Nat} (h : Rd w (Df.d (Df.mk n (Ty.mk tk tn tks) (Tm.mk bk bu bn (Ty.mk btk btn btks) bns bks))) cs F) : ∃ (atks : Option Addr) (ctks : Nat) (abtks : Option Addr) (cbtks : Nat) (abns : Option Addr) (cbns : Nat) (abks : Option Addr) (cbks : Nat), cs = [.string n, .int .i64 tk, .string tn, .slice atks tks.length ctks, .int .i64 bk, .int .i64 bu, .string bn, .int .i64 btk, .string btn, .slice abtks btks.length cbtks, .slice abns bns.length cbns, .slice abks bks.length cbks] ∧ (n.size ≤ 9223372036854775807 ∧ ((-9223372036854775808 ≤ tk ∧ tk ≤ 9223372036854775807) ∧ tn.size ≤ 9223372036854775807 ∧ RdL w (Ty.ds tks) (.slice atks tks.length ctks)) ∧ ((-9223372036854775808 ≤ bk ∧ bk ≤ 9223372036854775807) ∧ (-9223372036854775808 ≤ bu ∧ bu ≤ 9223372036854775807) ∧ bn.size ≤ 9223372036854775807 ∧ ((-9223372036854775808 ≤ btk ∧ btk ≤ 9223372036854775807) ∧ btn.size ≤ 9223372036854775807 ∧ RdL w (Ty.ds btks) (.slice abtks btks.length cbtks)) ∧ RdL w (Sr.ds bns) (.slice abns bns.length cbns) ∧ RdL w (Tm.ds bks) (.slice abks bks.length cbks))) := by
  obtain ⟨e1, r1, F1, G1, rfl, rfl, g1, k1⟩ := h.struct_inv.cons_inv
  obtain ⟨rfl, rfl, n1⟩ := g1.str_inv
  obtain ⟨e2, r2, F2, G2, rfl, rfl, g2, k2⟩ := k1.cons_inv
  obtain ⟨a2_ks, c2_ks, rfl, n2⟩ := g2.Ty_inv
  obtain ⟨e3, r3, F3, G3, rfl, rfl, g3, k3⟩ := k2.cons_inv
  obtain ⟨a3_tks, c3_tks, a3_ns, c3_ns, a3_ks, c3_ks, rfl, n3⟩ := g3.Tm_inv
  obtain ⟨rfl, rfl⟩ := k3.nil_inv
  refine ⟨a2_ks, c2_ks, a3_tks, c3_tks, a3_ns, c3_ns, a3_ks, c3_ks, by simp, ?_⟩
  exact ⟨n1, n2, n3⟩
theorem RdS.fDf {w : World} {n : ByteArray} {tk : Int} {tn : ByteArray} {tks : List Ty} {bk : Int} {bu : Int} {bn : ByteArray} {btk : Int} {btn : ByteArray} {btks : List Ty} {bns : List ByteArray} {bks : List Tm} {atks : Option Addr} {ctks : Nat} {abtks : Option Addr} {cbtks : Nat} {abns : Option Addr} {cbns : Nat} {abks : Option Addr} {cbks : Nat} (h : RdS w (Df.d (Df.mk n (Ty.mk tk tn tks) (Tm.mk bk bu bn (Ty.mk btk btn btks) bns bks))) [.string n, .int .i64 tk, .string tn, .slice atks tks.length ctks, .int .i64 bk, .int .i64 bu, .string bn, .int .i64 btk, .string btn, .slice abtks btks.length cbtks, .slice abns bns.length cbns, .slice abks bks.length cbks]) : n.size ≤ 9223372036854775807 ∧ ((-9223372036854775808 ≤ tk ∧ tk ≤ 9223372036854775807) ∧ tn.size ≤ 9223372036854775807 ∧ RdL w (Ty.ds tks) (.slice atks tks.length ctks)) ∧ ((-9223372036854775808 ≤ bk ∧ bk ≤ 9223372036854775807) ∧ (-9223372036854775808 ≤ bu ∧ bu ≤ 9223372036854775807) ∧ bn.size ≤ 9223372036854775807 ∧ ((-9223372036854775808 ≤ btk ∧ btk ≤ 9223372036854775807) ∧ btn.size ≤ 9223372036854775807 ∧ RdL w (Ty.ds btks) (.slice abtks btks.length cbtks)) ∧ RdL w (Sr.ds bns) (.slice abns bns.length cbns) ∧ RdL w (Tm.ds bks) (.slice abks bks.length cbks)) := by
  obtain ⟨F, h⟩ := h
  obtain ⟨atks', ctks', abtks', cbtks', abns', cbns', abks', cbks', e, hf⟩ := h.Df_inv
  simp only [List.cons.injEq, Value.slice.injEq, true_and, and_true] at e
  obtain ⟨⟨rfl, rfl⟩, ⟨rfl, rfl⟩, ⟨rfl, rfl⟩, ⟨rfl, rfl⟩⟩ := e
  exact hf

/-- A slice of these: the value, and what each element's cells hold. -/
theorem RdL.eDf {w : World} {ts : List Df} {v : Value} (h : RdL w (Df.ds ts) v) : ∃ (a : Option Addr) (cap : Nat), v = .slice a ts.length cap ∧ ts.length ≤ cap ∧ cap ≤ 9223372036854775807 ∧
    (0 < ts.length → ∃ b o, a = some ⟨b, o, none⟩ ∧ b < w.heap.size ∧ ∀ (i : Nat) (n : ByteArray) (tk : Int) (tn : ByteArray) (tks : List Ty) (bk : Int) (bu : Int) (bn : ByteArray) (btk : Int) (btn : ByteArray) (btks : List Ty) (bns : List ByteArray) (bks : List Tm), ts[i]? = some (Df.mk n (Ty.mk tk tn tks) (Tm.mk bk bu bn (Ty.mk btk btn btks) bns bks)) → ∃ (atks : Option Addr) (ctks : Nat) (abtks : Option Addr) (cbtks : Nat) (abns : Option Addr) (cbns : Nat) (abks : Option Addr) (cbks : Nat), 
      w.cell? ⟨b, o + i * 12, none⟩ = some (.string n) ∧ w.cell? ⟨b, o + i * 12 + 1, none⟩ = some (.int .i64 tk) ∧ w.cell? ⟨b, o + i * 12 + 2, none⟩ = some (.string tn) ∧ w.cell? ⟨b, o + i * 12 + 3, none⟩ = some (.slice atks tks.length ctks) ∧ w.cell? ⟨b, o + i * 12 + 4, none⟩ = some (.int .i64 bk) ∧ w.cell? ⟨b, o + i * 12 + 5, none⟩ = some (.int .i64 bu) ∧ w.cell? ⟨b, o + i * 12 + 6, none⟩ = some (.string bn) ∧ w.cell? ⟨b, o + i * 12 + 7, none⟩ = some (.int .i64 btk) ∧ w.cell? ⟨b, o + i * 12 + 8, none⟩ = some (.string btn) ∧ w.cell? ⟨b, o + i * 12 + 9, none⟩ = some (.slice abtks btks.length cbtks) ∧ w.cell? ⟨b, o + i * 12 + 10, none⟩ = some (.slice abns bns.length cbns) ∧ w.cell? ⟨b, o + i * 12 + 11, none⟩ = some (.slice abks bks.length cbks) ∧ RdS w (Df.d (Df.mk n (Ty.mk tk tn tks) (Tm.mk bk bu bn (Ty.mk btk btn btks) bns bks))) [.string n, .int .i64 tk, .string tn, .slice atks tks.length ctks, .int .i64 bk, .int .i64 bu, .string bn, .int .i64 btk, .string btn, .slice abtks btks.length cbtks, .slice abns bns.length cbns, .slice abks bks.length cbks]) := by
  obtain ⟨F, h⟩ := h
  obtain ⟨a, cap, h1, h2, h3, h4⟩ := h.list_inv
  rw [Df.ds_length] at h1 h2
  simp only [List.cons.injEq, and_true] at h1
  refine ⟨a, cap, h1, h2, h3, fun hp => ?_⟩
  rcases h4 with ⟨h4, _⟩ | ⟨b, o, xs, F', _, rfl, rfl, hb, hx, hr⟩
  · have := congrArg List.length h4; rw [Df.ds_length] at this; simp at this; simp [this] at hp
  · refine ⟨b, o, rfl, hb, fun i n tk tn tks bk bu bn btk btn btks bns bks hi => ?_⟩
    obtain ⟨cs, Fi, k1, k2, _⟩ := hr.get (Df.ds_len ts) (i := i) (d := Df.d (Df.mk n (Ty.mk tk tn tks) (Tm.mk bk bu bn (Ty.mk btk btn btks) bns bks))) (by rw [Df.ds_get, hi]; rfl)
    obtain ⟨atks, ctks, abtks, cbtks, abns, cbns, abks, cbks, e, -⟩ := k2.Df_inv
    subst e
    refine ⟨atks, ctks, abtks, cbtks, abns, cbns, abks, cbks, ?_, ?_, ?_, ?_, ?_, ?_, ?_, ?_, ?_, ?_, ?_, ?_, ⟨Fi, k2⟩⟩
    · have := hx _ _ (k1 0 (.string n) rfl); simpa [Nat.add_assoc] using this
    · have := hx _ _ (k1 1 (.int .i64 tk) rfl); simpa [Nat.add_assoc] using this
    · have := hx _ _ (k1 2 (.string tn) rfl); simpa [Nat.add_assoc] using this
    · have := hx _ _ (k1 3 (.slice atks tks.length ctks) rfl); simpa [Nat.add_assoc] using this
    · have := hx _ _ (k1 4 (.int .i64 bk) rfl); simpa [Nat.add_assoc] using this
    · have := hx _ _ (k1 5 (.int .i64 bu) rfl); simpa [Nat.add_assoc] using this
    · have := hx _ _ (k1 6 (.string bn) rfl); simpa [Nat.add_assoc] using this
    · have := hx _ _ (k1 7 (.int .i64 btk) rfl); simpa [Nat.add_assoc] using this
    · have := hx _ _ (k1 8 (.string btn) rfl); simpa [Nat.add_assoc] using this
    · have := hx _ _ (k1 9 (.slice abtks btks.length cbtks) rfl); simpa [Nat.add_assoc] using this
    · have := hx _ _ (k1 10 (.slice abns bns.length cbns) rfl); simpa [Nat.add_assoc] using this
    · have := hx _ _ (k1 11 (.slice abks bks.length cbks) rfl); simpa [Nat.add_assoc] using this

end Go.Proofs.YtgpefnlpbjnjbaaGreat
