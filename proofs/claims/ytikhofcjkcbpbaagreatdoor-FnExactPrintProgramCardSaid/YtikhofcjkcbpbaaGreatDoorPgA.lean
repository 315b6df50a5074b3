/- Merged texts: DCon DDat DDf DPg Fst DatPlain PgPlain AnyTy AnyDat AnyDf PgNamed SzCon SzDat SzDf SzPg. No condition. -/
import Derived.Test.YtikhofcjkcbpbaaGreatDoorDTy
import Derived.Test.YtikhofcjkcbpbaaGreatDoorDTm
import Derived.Test.YtikhofcjkcbpbaaGreatDoorFrame
import Derived.Test.YtikhofcjkcbpbaaGreatDoorTyOk
import Derived.Test.YtikhofcjkcbpbaaGreatDoorTyShape
import Derived.Test.YtikhofcjkcbpbaaGreatDoorTmPlain
import Derived.Test.YtikhofcjkcbpbaaGreatDoorTwo
import Derived.Lib.QuietBelow
import Derived.BigQuiet
import Derived.Test.YtikhofcjkcbpbaaGreatDoorSzTy
import Derived.Test.YtikhofcjkcbpbaaGreatDoorSzSc
import Derived.Test.YtikhofcjkcbpbaaGreatDoorSzTm
/- was: DCon -/
namespace Go.Proofs.YtikhofcjkcbpbaaGreatDoor
open Go.RowKit

inductive Con where
  | mk (n : ByteArray) (fs : List Ty)
def Con.d : Con → D
  | .mk n fs => .struct [.str n, .list (Ty.ds fs)]
def Con.ds : List Con → List D
  | [] => []
  | t :: ts => Con.d t :: Con.ds ts

/-- Nodes and letters. -/
def Con.bulk : Con → Nat
  | .mk n fs => n.size + Ty.bulks fs
def Con.bulks : List Con → Nat
  | [] => 0
  | t :: ts => 1 + Con.bulk t + Con.bulks ts

theorem Con.d_len (t : Con) : (Con.d t).len = 2 := by cases t; simp [Con.d, D.len, D.lens]
theorem Con.ds_length : ∀ ts : List Con, (Con.ds ts).length = ts.length
  | [] => rfl
  | t :: ts => by simp [Con.ds, Con.ds_length ts]
theorem Con.ds_get : ∀ (ts : List Con) (i : Nat), (Con.ds ts)[i]? = (ts[i]?).map Con.d
  | [], i => by simp [Con.ds]
  | t :: ts, 0 => by simp [Con.ds]
  | t :: ts, i + 1 => by simp [Con.ds, Con.ds_get ts i]
theorem Con.ds_snoc : ∀ (ts : List Con) (i : Nat) (t : Con), ts[i]? = some t → Con.ds (ts.take (i + 1)) = Con.ds (ts.take i) ++ [Con.d t]
  | [], i, t, h => by simp at h
  | u :: ts, 0, t, h => by simp at h; subst h; simp [Con.ds]
  | u :: ts, i + 1, t, h => by have := Con.ds_snoc ts i t (by simpa using h); simp [Con.ds, this]
theorem Con.ds_append : ∀ (ts us : List Con), Con.ds (ts ++ us) = Con.ds ts ++ Con.ds us
  | [], us => rfl
  | t :: ts, us => by simp [Con.ds, Con.ds_append ts us]
theorem Con.ds_len : ∀ (ts : List Con), ∀ d ∈ Con.ds ts, d.len = 2
  | [], d, h => by simp [Con.ds] at h
  | t :: ts, d, h => by
    simp only [Con.ds, List.mem_cons] at h
    rcases h with rfl | h
    · exact Con.d_len t
    · exact Con.ds_len ts d h
theorem Con.bulks_length : ∀ ts : List Con, ts.length ≤ Con.bulks ts
  | [] => by simp
  | t :: ts => by have := Con.bulks_length ts; simp [Con.bulks]; omega
theorem Con.bulk_get : ∀ (ts : List Con) (i : Nat) (t : Con), ts[i]? = some t → Con.bulk t < Con.bulks ts
  | [], i, t, h => by simp at h
  | u :: ts, 0, t, h => by simp at h; subst h; simp [Con.bulks]; omega
  | u :: ts, i + 1, t, h => by have := Con.bulk_get ts i t (by simpa using h); simp [Con.bulks]; omega
theorem Con.bulks_take : ∀ (ts : List Con) (i : Nat) (t : Con), ts[i]? = some t → Con.bulks (ts.take (i + 1)) = Con.bulks (ts.take i) + 1 + Con.bulk t
  | [], i, t, h => by simp at h
  | u :: ts, 0, t, h => by simp at h; subst h; simp [Con.bulks]
  | u :: ts, i + 1, t, h => by have := Con.bulks_take ts i t (by simpa using h); simp [Con.bulks] at *; omega
theorem Con.bulks_le : ∀ (ts : List Con) (i : Nat), Con.bulks (ts.take i) + (ts.length - i) ≤ Con.bulks ts
  | [], i => by simp
  | u :: ts, 0 => by have := Con.bulks_length ts; simp [Con.bulks]; omega
  | u :: ts, i + 1 => by have := Con.bulks_le ts i; simp [Con.bulks]; omega
theorem Rd.Con_inv {w : World} {n : ByteArray} {fs : List Ty} {cs : List Value} {F : List Nat} (h : Rd w (Con.d (Con.mk n fs)) cs F) : ∃ (afs : Option Addr) (cfs : Nat), cs = [.string n, .slice afs fs.length cfs] ∧ (n.size ≤ 9223372036854775807 ∧ RdL w (Ty.ds fs) (.slice afs fs.length cfs)) := by
  obtain ⟨e1, r1, F1, G1, rfl, rfl, g1, k1⟩ := h.struct_inv.cons_inv
  obtain ⟨rfl, rfl, n1⟩ := g1.str_inv
  obtain ⟨e2, r2, F2, G2, rfl, rfl, g2, k2⟩ := k1.cons_inv
  obtain ⟨a2, c2, rfl, -⟩ := g2.list_inv
  rw [Ty.ds_length] at g2
  obtain ⟨rfl, rfl⟩ := k2.nil_inv
  refine ⟨a2, c2, by simp [Ty.ds_length], ?_⟩
  exact ⟨n1, ⟨F2, g2⟩⟩
theorem RdS.fCon {w : World} {n : ByteArray} {fs : List Ty} {afs : Option Addr} {cfs : Nat} (h : RdS w (Con.d (Con.mk n fs)) [.string n, .slice afs fs.length cfs]) : n.size ≤ 9223372036854775807 ∧ RdL w (Ty.ds fs) (.slice afs fs.length cfs) := by
  obtain ⟨F, h⟩ := h
  obtain ⟨afs', cfs', e, hf⟩ := h.Con_inv
  simp only [List.cons.injEq, Value.slice.injEq, true_and, and_true] at e
  obtain ⟨rfl, rfl⟩ := e
  exact hf

/-- A slice of these: the value, and what each element's cells hold. -/
theorem RdL.eCon {w : World} {ts : List Con} {v : Value} (h : RdL w (Con.ds ts) v) : ∃ (a : Option Addr) (cap : Nat), v = .slice a ts.length cap ∧ ts.length ≤ cap ∧ cap ≤ 9223372036854775807 ∧
    (0 < ts.length → ∃ b o, a = some ⟨b, o, none⟩ ∧ b < w.heap.size ∧ ∀ (i : Nat) (n : ByteArray) (fs : List Ty), ts[i]? = some (Con.mk n fs) → ∃ (afs : Option Addr) (cfs : Nat), 
      w.cell? ⟨b, o + i * 2, none⟩ = some (.string n) ∧ w.cell? ⟨b, o + i * 2 + 1, none⟩ = some (.slice afs fs.length cfs) ∧ RdS w (Con.d (Con.mk n fs)) [.string n, .slice afs fs.length cfs]) := by
  obtain ⟨F, h⟩ := h
  obtain ⟨a, cap, h1, h2, h3, h4⟩ := h.list_inv
  rw [Con.ds_length] at h1 h2
  simp only [List.cons.injEq, and_true] at h1
  refine ⟨a, cap, h1, h2, h3, fun hp => ?_⟩
  rcases h4 with ⟨h4, _⟩ | ⟨b, o, xs, F', _, rfl, rfl, hb, hx, hr⟩
  · have := congrArg List.length h4; rw [Con.ds_length] at this; simp at this; simp [this] at hp
  · refine ⟨b, o, rfl, hb, fun i n fs hi => ?_⟩
    obtain ⟨cs, Fi, k1, k2, _⟩ := hr.get (Con.ds_len ts) (i := i) (d := Con.d (Con.mk n fs)) (by rw [Con.ds_get, hi]; rfl)
    obtain ⟨afs, cfs, e, -⟩ := k2.Con_inv
    subst e
    refine ⟨afs, cfs, ?_, ?_, ⟨Fi, k2⟩⟩
    · have := hx _ _ (k1 0 (.string n) rfl); simpa [Nat.add_assoc] using this
    · have := hx _ _ (k1 1 (.slice afs fs.length cfs) rfl); simpa [Nat.add_assoc] using this

end Go.Proofs.YtikhofcjkcbpbaaGreatDoor
/- was: DDat -/
namespace Go.Proofs.YtikhofcjkcbpbaaGreatDoor
open Go.RowKit

inductive Dat where
  | mk (n : ByteArray) (qs : List Con)
def Dat.d : Dat → D
  | .mk n qs => .struct [.str n, .list (Con.ds qs)]
def Dat.ds : List Dat → List D
  | [] => []
  | t :: ts => Dat.d t :: Dat.ds ts

/-- Nodes and letters. -/
def Dat.bulk : Dat → Nat
  | .mk n qs => n.size + Con.bulks qs
def Dat.bulks : List Dat → Nat
  | [] => 0
  | t :: ts => 1 + Dat.bulk t + Dat.bulks ts

theorem Dat.d_len (t : Dat) : (Dat.d t).len = 2 := by cases t; simp [Dat.d, D.len, D.lens]
theorem Dat.ds_length : ∀ ts : List Dat, (Dat.ds ts).length = ts.length
  | [] => rfl
  | t :: ts => by simp [Dat.ds, Dat.ds_length ts]
theorem Dat.ds_get : ∀ (ts : List Dat) (i : Nat), (Dat.ds ts)[i]? = (ts[i]?).map Dat.d
  | [], i => by simp [Dat.ds]
  | t :: ts, 0 => by simp [Dat.ds]
  | t :: ts, i + 1 => by simp [Dat.ds, Dat.ds_get ts i]
theorem Dat.ds_snoc : ∀ (ts : List Dat) (i : Nat) (t : Dat), ts[i]? = some t → Dat.ds (ts.take (i + 1)) = Dat.ds (ts.take i) ++ [Dat.d t]
  | [], i, t, h => by simp at h
  | u :: ts, 0, t, h => by simp at h; subst h; simp [Dat.ds]
  | u :: ts, i + 1, t, h => by have := Dat.ds_snoc ts i t (by simpa using h); simp [Dat.ds, this]
theorem Dat.ds_append : ∀ (ts us : List Dat), Dat.ds (ts ++ us) = Dat.ds ts ++ Dat.ds us
  | [], us => rfl
  | t :: ts, us => by simp [Dat.ds, Dat.ds_append ts us]
theorem Dat.ds_len : ∀ (ts : List Dat), ∀ d ∈ Dat.ds ts, d.len = 2
  | [], d, h => by simp [Dat.ds] at h
  | t :: ts, d, h => by
    simp only [Dat.ds, List.mem_cons] at h
    rcases h with rfl | h
    · exact Dat.d_len t
    · exact Dat.ds_len ts d h
theorem Dat.bulks_length : ∀ ts : List Dat, ts.length ≤ Dat.bulks ts
  | [] => by simp
  | t :: ts => by have := Dat.bulks_length ts; simp [Dat.bulks]; omega
theorem Dat.bulk_get : ∀ (ts : List Dat) (i : Nat) (t : Dat), ts[i]? = some t → Dat.bulk t < Dat.bulks ts
  | [], i, t, h => by simp at h
  | u :: ts, 0, t, h => by simp at h; subst h; simp [Dat.bulks]; omega
  | u :: ts, i + 1, t, h => by have := Dat.bulk_get ts i t (by simpa using h); simp [Dat.bulks]; omega
theorem Dat.bulks_take : ∀ (ts : List Dat) (i : Nat) (t : Dat), ts[i]? = some t → Dat.bulks (ts.take (i + 1)) = Dat.bulks (ts.take i) + 1 + Dat.bulk t
  | [], i, t, h => by simp at h
  | u :: ts, 0, t, h => by simp at h; subst h; simp [Dat.bulks]
  | u :: ts, i + 1, t, h => by have := Dat.bulks_take ts i t (by simpa using h); simp [Dat.bulks] at *; omega
theorem Dat.bulks_le : ∀ (ts : List Dat) (i : Nat), Dat.bulks (ts.take i) + (ts.length - i) ≤ Dat.bulks ts
  | [], i => by simp
  | u :: ts, 0 => by have := Dat.bulks_length ts; simp [Dat.bulks]; omega
  | u :: ts, i + 1 => by have := Dat.bulks_le ts i; simp [Dat.bulks]; omega
theorem Rd.Dat_inv {w : World} {n : ByteArray} {qs : List Con} {cs : List Value} {F : List Nat} (h : Rd w (Dat.d (Dat.mk n qs)) cs F) : ∃ (aqs : Option Addr) (cqs : Nat), cs = [.string n, .slice aqs qs.length cqs] ∧ (n.size ≤ 9223372036854775807 ∧ RdL w (Con.ds qs) (.slice aqs qs.length cqs)) := by
  obtain ⟨e1, r1, F1, G1, rfl, rfl, g1, k1⟩ := h.struct_inv.cons_inv
  obtain ⟨rfl, rfl, n1⟩ := g1.str_inv
  obtain ⟨e2, r2, F2, G2, rfl, rfl, g2, k2⟩ := k1.cons_inv
  obtain ⟨a2, c2, rfl, -⟩ := g2.list_inv
  rw [Con.ds_length] at g2
  obtain ⟨rfl, rfl⟩ := k2.nil_inv
  refine ⟨a2, c2, by simp [Con.ds_length], ?_⟩
  exact ⟨n1, ⟨F2, g2⟩⟩
theorem RdS.fDat {w : World} {n : ByteArray} {qs : List Con} {aqs : Option Addr} {cqs : Nat} (h : RdS w (Dat.d (Dat.mk n qs)) [.string n, .slice aqs qs.length cqs]) : n.size ≤ 9223372036854775807 ∧ RdL w (Con.ds qs) (.slice aqs qs.length cqs) := by
  obtain ⟨F, h⟩ := h
  obtain ⟨aqs', cqs', e, hf⟩ := h.Dat_inv
  simp only [List.cons.injEq, Value.slice.injEq, true_and, and_true] at e
  obtain ⟨rfl, rfl⟩ := e
  exact hf

/-- A slice of these: the value, and what each element's cells hold. -/
theorem RdL.eDat {w : World} {ts : List Dat} {v : Value} (h : RdL w (Dat.ds ts) v) : ∃ (a : Option Addr) (cap : Nat), v = .slice a ts.length cap ∧ ts.length ≤ cap ∧ cap ≤ 9223372036854775807 ∧
    (0 < ts.length → ∃ b o, a = some ⟨b, o, none⟩ ∧ b < w.heap.size ∧ ∀ (i : Nat) (n : ByteArray) (qs : List Con), ts[i]? = some (Dat.mk n qs) → ∃ (aqs : Option Addr) (cqs : Nat), 
      w.cell? ⟨b, o + i * 2, none⟩ = some (.string n) ∧ w.cell? ⟨b, o + i * 2 + 1, none⟩ = some (.slice aqs qs.length cqs) ∧ RdS w (Dat.d (Dat.mk n qs)) [.string n, .slice aqs qs.length cqs]) := by
  obtain ⟨F, h⟩ := h
  obtain ⟨a, cap, h1, h2, h3, h4⟩ := h.list_inv
  rw [Dat.ds_length] at h1 h2
  simp only [List.cons.injEq, and_true] at h1
  refine ⟨a, cap, h1, h2, h3, fun hp => ?_⟩
  rcases h4 with ⟨h4, _⟩ | ⟨b, o, xs, F', _, rfl, rfl, hb, hx, hr⟩
  · have := congrArg List.length h4; rw [Dat.ds_length] at this; simp at this; simp [this] at hp
  · refine ⟨b, o, rfl, hb, fun i n qs hi => ?_⟩
    obtain ⟨cs, Fi, k1, k2, _⟩ := hr.get (Dat.ds_len ts) (i := i) (d := Dat.d (Dat.mk n qs)) (by rw [Dat.ds_get, hi]; rfl)
    obtain ⟨aqs, cqs, e, -⟩ := k2.Dat_inv
    subst e
    refine ⟨aqs, cqs, ?_, ?_, ⟨Fi, k2⟩⟩
    · have := hx _ _ (k1 0 (.string n) rfl); simpa [Nat.add_assoc] using this
    · have := hx _ _ (k1 1 (.slice aqs qs.length cqs) rfl); simpa [Nat.add_assoc] using this

end Go.Proofs.YtikhofcjkcbpbaaGreatDoor
/- was: DDf -/
namespace Go.Proofs.YtikhofcjkcbpbaaGreatDoor
open Go.RowKit

inductive Df where
  | mk (n : ByteArray) (t : Ty) (b : Tm)
def Df.d : Df → D
  | .mk n t b => .struct [.str n, Ty.d t, Tm.d b]
def Df.ds : List Df → List D
  | [] => []
  | t :: ts => Df.d t :: Df.ds ts

/-- Nodes and letters. -/
def Df.bulk : Df → Nat
  | .mk n t b => n.size + Ty.bulk t + Tm.bulk b
def Df.bulks : List Df → Nat
  | [] => 0
  | t :: ts => 1 + Df.bulk t + Df.bulks ts

theorem Df.d_len (t : Df) : (Df.d t).len = 12 := by cases t; simp [Df.d, D.len, D.lens, Tm.d_len, Ty.d_len]
theorem Df.ds_length : ∀ ts : List Df, (Df.ds ts).length = ts.length
  | [] => rfl
  | t :: ts => by simp [Df.ds, Df.ds_length ts]
theorem Df.ds_get : ∀ (ts : List Df) (i : Nat), (Df.ds ts)[i]? = (ts[i]?).map Df.d
  | [], i => by simp [Df.ds]
  | t :: ts, 0 => by simp [Df.ds]
  | t :: ts, i + 1 => by simp [Df.ds, Df.ds_get ts i]
theorem Df.ds_snoc : ∀ (ts : List Df) (i : Nat) (t : Df), ts[i]? = some t → Df.ds (ts.take (i + 1)) = Df.ds (ts.take i) ++ [Df.d t]
  | [], i, t, h => by simp at h
  | u :: ts, 0, t, h => by simp at h; subst h; simp [Df.ds]
  | u :: ts, i + 1, t, h => by have := Df.ds_snoc ts i t (by simpa using h); simp [Df.ds, this]
theorem Df.ds_append : ∀ (ts us : List Df), Df.ds (ts ++ us) = Df.ds ts ++ Df.ds us
  | [], us => rfl
  | t :: ts, us => by simp [Df.ds, Df.ds_append ts us]
theorem Df.ds_len : ∀ (ts : List Df), ∀ d ∈ Df.ds ts, d.len = 12
  | [], d, h => by simp [Df.ds] at h
  | t :: ts, d, h => by
    simp only [Df.ds, List.mem_cons] at h
    rcases h with rfl | h
    · exact Df.d_len t
    · exact Df.ds_len ts d h
theorem Df.bulks_length : ∀ ts : List Df, ts.length ≤ Df.bulks ts
  | [] => by simp
  | t :: ts => by have := Df.bulks_length ts; simp [Df.bulks]; omega
theorem Df.bulk_get : ∀ (ts : List Df) (i : Nat) (t : Df), ts[i]? = some t → Df.bulk t < Df.bulks ts
  | [], i, t, h => by simp at h
  | u :: ts, 0, t, h => by simp at h; subst h; simp [Df.bulks]; omega
  | u :: ts, i + 1, t, h => by have := Df.bulk_get ts i t (by simpa using h); simp [Df.bulks]; omega
theorem Df.bulks_take : ∀ (ts : List Df) (i : Nat) (t : Df), ts[i]? = some t → Df.bulks (ts.take (i + 1)) = Df.bulks (ts.take i) + 1 + Df.bulk t
  | [], i, t, h => by simp at h
  | u :: ts, 0, t, h => by simp at h; subst h; simp [Df.bulks]
  | u :: ts, i + 1, t, h => by have := Df.bulks_take ts i t (by simpa using h); simp [Df.bulks] at *; omega
theorem Df.bulks_le : ∀ (ts : List Df) (i : Nat), Df.bulks (ts.take i) + (ts.length - i) ≤ Df.bulks ts
  | [], i => by simp
  | u :: ts, 0 => by have := Df.bulks_length ts; simp [Df.bulks]; omega
  | u :: ts, i + 1 => by have := Df.bulks_le ts i; simp [Df.bulks]; omega
theorem Rd.Df_inv {w : World} {n : ByteArray} {tk : Int} {tn : ByteArray} {tks : List Ty} {bk : Int} {bu : Int} {bn : ByteArray} {btk : Int} {btn : ByteArray} {btks : List Ty} {bns : List ByteArray} {bks : List Tm} {cs : List Value} {F : List Nat} (h : Rd w (Df.d (Df.mk n (Ty.mk tk tn tks) (Tm.mk bk bu bn (Ty.mk btk btn btks) bns bks))) cs F) : ∃ (atks : Option Addr) (ctks : Nat) (abtks : Option Addr) (cbtks : Nat) (abns : Option Addr) (cbns : Nat) (abks : Option Addr) (cbks : Nat), cs = [.string n, .int .i64 tk, .string tn, .slice atks tks.length ctks, .int .i64 bk, .int .i64 bu, .string bn, .int .i64 btk, .string btn, .slice abtks btks.length cbtks, .slice abns bns.length cbns, .slice abks bks.length cbks] ∧ (n.size ≤ 9223372036854775807 ∧ ((-9223372036854775808 ≤ tk ∧ tk ≤ 9223372036854775807) ∧ tn.size ≤ 9223372036854775807 ∧ RdL w (Ty.ds tks) (.slice atks tks.length ctks)) ∧ ((-9223372036854775808 ≤ bk ∧ bk ≤ 9223372036854775807) ∧ (-9223372036854775808 ≤ bu ∧ bu ≤ 9223372036854775807) ∧ bn.size ≤ 9223372036854775807 ∧ ((-9223372036854775808 ≤ btk ∧ btk ≤ 9223372036854775807) ∧ btn.size ≤ 9223372036854775807 ∧ RdL w (Ty.ds btks) (.slice abtks btks.length cbtks)) ∧ RdL w (Sr.ds bns) (.slice abns bns.length cbns) ∧ RdL w (Tm.ds bks) (.slice abks bks.length cbks))) := by
  obtain ⟨e1, r1, F1, G1, rfl, rfl, g1, k1⟩ := h.struct_inv.cons_inv
  obtain ⟨rfl, rfl, n1⟩ := g1.str_inv
  obtain ⟨e2, r2, F2, G2, rfl, rfl, g2, k2⟩ := k1.cons_inv
  obtain ⟨a2_ks, c2_ks, rfl, n2⟩ := g2.Ty_inv
  obtain ⟨e3, r3, F3, G3, rfl, rfl, g3, k3⟩ := k2.cons_inv
  obtain ⟨a3_tks, c3_tks, a3_ns, c3_ns, a3_ks, c3_ks, rfl, n3⟩ := g3.Tm_inv
  obtain ⟨rfl, rfl⟩ := k3.nil_inv
  refine ⟨a2_ks, c2_ks, a3_tks, c3_tks, a3_ns, c3_ns, a3_ks, c3_ks, by simp, ?_⟩
  exact ⟨n1, n2, n3⟩
theorem RdS.fDf {w : World} {n : ByteArray} {tk : Int} {tn : ByteArray} {tks : List Ty} {bk : Int} {bu : Int} {bn : ByteArray} {btk : Int} {btn : ByteArray} {btks : List Ty} {bns : List ByteArray} {bks : List Tm} {atks : Option Addr} {ctks : Nat} {abtks : Option Addr} {cbtks : Nat} {abns : Option Addr} {cbns : Nat} {abks : Option Addr} {cbks : Nat} (h : RdS w (Df.d (Df.mk n (Ty.mk tk tn tks) (Tm.mk bk bu bn (Ty.mk btk btn btks) bns bks))) [.string n, .int .i64 tk, .string tn, .slice atks tks.length ctks, .int .i64 bk, .int .i64 bu, .string bn, .int .i64 btk, .string btn, .slice abtks btks.length cbtks, .slice abns bns.length cbns, .slice abks bks.length cbks]) : n.size ≤ 9223372036854775807 ∧ ((-9223372036854775808 ≤ tk ∧ tk ≤ 9223372036854775807) ∧ tn.size ≤ 9223372036854775807 ∧ RdL w (Ty.ds tks) (.slice atks tks.length ctks)) ∧ ((-9223372036854775808 ≤ bk ∧ bk ≤ 9223372036854775807) ∧ (-9223372036854775808 ≤ bu ∧ bu ≤ 9223372036854775807) ∧ bn.size ≤ 9223372036854775807 ∧ ((-9223372036854775808 ≤ btk ∧ btk ≤ 9223372036854775807) ∧ btn.size ≤ 9223372036854775807 ∧ RdL w (Ty.ds btks) (.slice abtks btks.length cbtks)) ∧ RdL w (Sr.ds bns) (.slice abns bns.length cbns) ∧ RdL w (Tm.ds bks) (.slice abks bks.length cbks)) := by
  obtain ⟨F, h⟩ := h
  obtain ⟨atks', ctks', abtks', cbtks', abns', cbns', abks', cbks', e, hf⟩ := h.Df_inv
  simp only [List.cons.injEq, Value.slice.injEq, true_and, and_true] at e
  obtain ⟨⟨rfl, rfl⟩, ⟨rfl, rfl⟩, ⟨rfl, rfl⟩, ⟨rfl, rfl⟩⟩ := e
  exact hf

/-- A slice of these: the value, and what each element's cells hold. -/
theorem RdL.eDf {w : World} {ts : List Df} {v : Value} (h : RdL w (Df.ds ts) v) : ∃ (a : Option Addr) (cap : Nat), v = .slice a ts.length cap ∧ ts.length ≤ cap ∧ cap ≤ 9223372036854775807 ∧
    (0 < ts.length → ∃ b o, a = some ⟨b, o, none⟩ ∧ b < w.heap.size ∧ ∀ (i : Nat) (n : ByteArray) (tk : Int) (tn : ByteArray) (tks : List Ty) (bk : Int) (bu : Int) (bn : ByteArray) (btk : Int) (btn : ByteArray) (btks : List Ty) (bns : List ByteArray) (bks : List Tm), ts[i]? = some (Df.mk n (Ty.mk tk tn tks) (Tm.mk bk bu bn (Ty.mk btk btn btks) bns bks)) → ∃ (atks : Option Addr) (ctks : Nat) (abtks : Option Addr) (cbtks : Nat) (abns : Option Addr) (cbns : Nat) (abks : Option Addr) (cbks : Nat), 
      w.cell? ⟨b, o + i * 12, none⟩ = some (.string n) ∧ w.cell? ⟨b, o + i * 12 + 1, none⟩ = some (.int .i64 tk) ∧ w.cell? ⟨b, o + i * 12 + 2, none⟩ = some (.string tn) ∧ w.cell? ⟨b, o + i * 12 + 3, none⟩ = some (.slice atks tks.length ctks) ∧ w.cell? ⟨b, o + i * 12 + 4, none⟩ = some (.int .i64 bk) ∧ w.cell? ⟨b, o + i * 12 + 5, none⟩ = some (.int .i64 bu) ∧ w.cell? ⟨b, o + i * 12 + 6, none⟩ = some (.string bn) ∧ w.cell? ⟨b, o + i * 12 + 7, none⟩ = some (.int .i64 btk) ∧ w.cell? ⟨b, o + i * 12 + 8, none⟩ = some (.string btn) ∧ w.cell? ⟨b, o + i * 12 + 9, none⟩ = some (.slice abtks btks.length cbtks) ∧ w.cell? ⟨b, o + i * 12 + 10, none⟩ = some (.slice abns bns.length cbns) ∧ w.cell? ⟨b, o + i * 12 + 11, none⟩ = some (.slice abks bks.length cbks) ∧ RdS w (Df.d (Df.mk n (Ty.mk tk tn tks) (Tm.mk bk bu bn (Ty.mk btk btn btks) bns bks))) [.string n, .int .i64 tk, .string tn, .slice atks tks.length ctks, .int .i64 bk, .int .i64 bu, .string bn, .int .i64 btk, .string btn, .slice abtks btks.length cbtks, .slice abns bns.length cbns, .slice abks bks.length cbks]) := by
  obtain ⟨F, h⟩ := h
  obtain ⟨a, cap, h1, h2, h3, h4⟩ := h.list_inv
  rw [Df.ds_length] at h1 h2
  simp only [List.cons.injEq, and_true] at h1
  refine ⟨a, cap, h1, h2, h3, fun hp => ?_⟩
  rcases h4 with ⟨h4, _⟩ | ⟨b, o, xs, F', _, rfl, rfl, hb, hx, hr⟩
  · have := congrArg List.length h4; rw [Df.ds_length] at this; simp at this; simp [this] at hp
  · refine ⟨b, o, rfl, hb, fun i n tk tn tks bk bu bn btk btn btks bns bks hi => ?_⟩
    obtain ⟨cs, Fi, k1, k2, _⟩ := hr.get (Df.ds_len ts) (i := i) (d := Df.d (Df.mk n (Ty.mk tk tn tks) (Tm.mk bk bu bn (Ty.mk btk btn btks) bns bks))) (by rw [Df.ds_get, hi]; rfl)
    obtain ⟨atks, ctks, abtks, cbtks, abns, cbns, abks, cbks, e, -⟩ := k2.Df_inv
    subst e
    refine ⟨atks, ctks, abtks, cbtks, abns, cbns, abks, cbks, ?_, ?_, ?_, ?_, ?_, ?_, ?_, ?_, ?_, ?_, ?_, ?_, ⟨Fi, k2⟩⟩
    · have := hx _ _ (k1 0 (.string n) rfl); simpa [Nat.add_assoc] using this
    · have := hx _ _ (k1 1 (.int .i64 tk) rfl); simpa [Nat.add_assoc] using this
    · have := hx _ _ (k1 2 (.string tn) rfl); simpa [Nat.add_assoc] using this
    · have := hx _ _ (k1 3 (.slice atks tks.length ctks) rfl); simpa [Nat.add_assoc] using this
    · have := hx _ _ (k1 4 (.int .i64 bk) rfl); simpa [Nat.add_assoc] using this
    · have := hx _ _ (k1 5 (.int .i64 bu) rfl); simpa [Nat.add_assoc] using this
    · have := hx _ _ (k1 6 (.string bn) rfl); simpa [Nat.add_assoc] using this
    · have := hx _ _ (k1 7 (.int .i64 btk) rfl); simpa [Nat.add_assoc] using this
    · have := hx _ _ (k1 8 (.string btn) rfl); simpa [Nat.add_assoc] using this
    · have := hx _ _ (k1 9 (.slice abtks btks.length cbtks) rfl); simpa [Nat.add_assoc] using this
    · have := hx _ _ (k1 10 (.slice abns bns.length cbns) rfl); simpa [Nat.add_assoc] using this
    · have := hx _ _ (k1 11 (.slice abks bks.length cbks) rfl); simpa [Nat.add_assoc] using this

end Go.Proofs.YtikhofcjkcbpbaaGreatDoor
/- was: DPg -/
namespace Go.Proofs.YtikhofcjkcbpbaaGreatDoor
open Go.RowKit

inductive Pg where
  | mk (ds : List Dat) (fs : List Df)
def Pg.d : Pg → D
  | .mk ds fs => .struct [.list (Dat.ds ds), .list (Df.ds fs)]
def Pg.ds : List Pg → List D
  | [] => []
  | t :: ts => Pg.d t :: Pg.ds ts

/-- Nodes and letters. -/
def Pg.bulk : Pg → Nat
  | .mk ds fs => Dat.bulks ds + Df.bulks fs
def Pg.bulks : List Pg → Nat
  | [] => 0
  | t :: ts => 1 + Pg.bulk t + Pg.bulks ts

theorem Pg.d_len (t : Pg) : (Pg.d t).len = 2 := by cases t; simp [Pg.d, D.len, D.lens]
theorem Pg.ds_length : ∀ ts : List Pg, (Pg.ds ts).length = ts.length
  | [] => rfl
  | t :: ts => by simp [Pg.ds, Pg.ds_length ts]
theorem Pg.ds_get : ∀ (ts : List Pg) (i : Nat), (Pg.ds ts)[i]? = (ts[i]?).map Pg.d
  | [], i => by simp [Pg.ds]
  | t :: ts, 0 => by simp [Pg.ds]
  | t :: ts, i + 1 => by simp [Pg.ds, Pg.ds_get ts i]
theorem Pg.ds_snoc : ∀ (ts : List Pg) (i : Nat) (t : Pg), ts[i]? = some t → Pg.ds (ts.take (i + 1)) = Pg.ds (ts.take i) ++ [Pg.d t]
  | [], i, t, h => by simp at h
  | u :: ts, 0, t, h => by simp at h; subst h; simp [Pg.ds]
  | u :: ts, i + 1, t, h => by have := Pg.ds_snoc ts i t (by simpa using h); simp [Pg.ds, this]
theorem Pg.ds_append : ∀ (ts us : List Pg), Pg.ds (ts ++ us) = Pg.ds ts ++ Pg.ds us
  | [], us => rfl
  | t :: ts, us => by simp [Pg.ds, Pg.ds_append ts us]
theorem Pg.ds_len : ∀ (ts : List Pg), ∀ d ∈ Pg.ds ts, d.len = 2
  | [], d, h => by simp [Pg.ds] at h
  | t :: ts, d, h => by
    simp only [Pg.ds, List.mem_cons] at h
    rcases h with rfl | h
    · exact Pg.d_len t
    · exact Pg.ds_len ts d h
theorem Pg.bulks_length : ∀ ts : List Pg, ts.length ≤ Pg.bulks ts
  | [] => by simp
  | t :: ts => by have := Pg.bulks_length ts; simp [Pg.bulks]; omega
theorem Pg.bulk_get : ∀ (ts : List Pg) (i : Nat) (t : Pg), ts[i]? = some t → Pg.bulk t < Pg.bulks ts
  | [], i, t, h => by simp at h
  | u :: ts, 0, t, h => by simp at h; subst h; simp [Pg.bulks]; omega
  | u :: ts, i + 1, t, h => by have := Pg.bulk_get ts i t (by simpa using h); simp [Pg.bulks]; omega
theorem Pg.bulks_take : ∀ (ts : List Pg) (i : Nat) (t : Pg), ts[i]? = some t → Pg.bulks (ts.take (i + 1)) = Pg.bulks (ts.take i) + 1 + Pg.bulk t
  | [], i, t, h => by simp at h
  | u :: ts, 0, t, h => by simp at h; subst h; simp [Pg.bulks]
  | u :: ts, i + 1, t, h => by have := Pg.bulks_take ts i t (by simpa using h); simp [Pg.bulks] at *; omega
theorem Pg.bulks_le : ∀ (ts : List Pg) (i : Nat), Pg.bulks (ts.take i) + (ts.length - i) ≤ Pg.bulks ts
  | [], i => by simp
  | u :: ts, 0 => by have := Pg.bulks_length ts; simp [Pg.bulks]; omega
  | u :: ts, i + 1 => by have := Pg.bulks_le ts i; simp [Pg.bulks]; omega
theorem Rd.Pg_inv {w : World} {ds : List Dat} {fs : List Df} {cs : List Value} {F : List Nat} (h : Rd w (Pg.d (Pg.mk ds fs)) cs F) : ∃ (ads : Option Addr) (cds : Nat) (afs : Option Addr) (cfs : Nat), cs = [.slice ads ds.length cds, .slice afs fs.length cfs] ∧ (RdL w (Dat.ds ds) (.slice ads ds.length cds) ∧ RdL w (Df.ds fs) (.slice afs fs.length cfs)) := by
  obtain ⟨e1, r1, F1, G1, rfl, rfl, g1, k1⟩ := h.struct_inv.cons_inv
  obtain ⟨a1, c1, rfl, -⟩ := g1.list_inv
  rw [Dat.ds_length] at g1
  obtain ⟨e2, r2, F2, G2, rfl, rfl, g2, k2⟩ := k1.cons_inv
  obtain ⟨a2, c2, rfl, -⟩ := g2.list_inv
  rw [Df.ds_length] at g2
  obtain ⟨rfl, rfl⟩ := k2.nil_inv
  refine ⟨a1, c1, a2, c2, by simp [Dat.ds_length, Df.ds_length], ?_⟩
  exact ⟨⟨F1, g1⟩, ⟨F2, g2⟩⟩
theorem RdS.fPg {w : World} {ds : List Dat} {fs : List Df} {ads : Option Addr} {cds : Nat} {afs : Option Addr} {cfs : Nat} (h : RdS w (Pg.d (Pg.mk ds fs)) [.slice ads ds.length cds, .slice afs fs.length cfs]) : RdL w (Dat.ds ds) (.slice ads ds.length cds) ∧ RdL w (Df.ds fs) (.slice afs fs.length cfs) := by
  obtain ⟨F, h⟩ := h
  obtain ⟨ads', cds', afs', cfs', e, hf⟩ := h.Pg_inv
  simp only [List.cons.injEq, Value.slice.injEq, true_and, and_true] at e
  obtain ⟨⟨rfl, rfl⟩, ⟨rfl, rfl⟩⟩ := e
  exact hf

/-- A slice of these: the value, and what each element's cells hold. -/
theorem RdL.ePg {w : World} {ts : List Pg} {v : Value} (h : RdL w (Pg.ds ts) v) : ∃ (a : Option Addr) (cap : Nat), v = .slice a ts.length cap ∧ ts.length ≤ cap ∧ cap ≤ 9223372036854775807 ∧
    (0 < ts.length → ∃ b o, a = some ⟨b, o, none⟩ ∧ b < w.heap.size ∧ ∀ (i : Nat) (ds : List Dat) (fs : List Df), ts[i]? = some (Pg.mk ds fs) → ∃ (ads : Option Addr) (cds : Nat) (afs : Option Addr) (cfs : Nat), 
      w.cell? ⟨b, o + i * 2, none⟩ = some (.slice ads ds.length cds) ∧ w.cell? ⟨b, o + i * 2 + 1, none⟩ = some (.slice afs fs.length cfs) ∧ RdS w (Pg.d (Pg.mk ds fs)) [.slice ads ds.length cds, .slice afs fs.length cfs]) := by
  obtain ⟨F, h⟩ := h
  obtain ⟨a, cap, h1, h2, h3, h4⟩ := h.list_inv
  rw [Pg.ds_length] at h1 h2
  simp only [List.cons.injEq, and_true] at h1
  refine ⟨a, cap, h1, h2, h3, fun hp => ?_⟩
  rcases h4 with ⟨h4, _⟩ | ⟨b, o, xs, F', _, rfl, rfl, hb, hx, hr⟩
  · have := congrArg List.length h4; rw [Pg.ds_length] at this; simp at this; simp [this] at hp
  · refine ⟨b, o, rfl, hb, fun i ds fs hi => ?_⟩
    obtain ⟨cs, Fi, k1, k2, _⟩ := hr.get (Pg.ds_len ts) (i := i) (d := Pg.d (Pg.mk ds fs)) (by rw [Pg.ds_get, hi]; rfl)
    obtain ⟨ads, cds, afs, cfs, e, -⟩ := k2.Pg_inv
    subst e
    refine ⟨ads, cds, afs, cfs, ?_, ?_, ⟨Fi, k2⟩⟩
    · have := hx _ _ (k1 0 (.slice ads ds.length cds) rfl); simpa [Nat.add_assoc] using this
    · have := hx _ _ (k1 1 (.slice afs fs.length cfs) rfl); simpa [Nat.add_assoc] using this

end Go.Proofs.YtikhofcjkcbpbaaGreatDoor
/- was: Fst -/
namespace Go.Proofs.YtikhofcjkcbpbaaGreatDoor
open Go.RowKit

/-- The first place, or -1. -/
def fstAt {α : Type} (p : α → Bool) : List α → Int
  | [] => -1
  | t :: ts => if p t then 0 else (if fstAt p ts < 0 then -1 else fstAt p ts + 1)
theorem fstAt_ge {α : Type} (p : α → Bool) : ∀ ts : List α, -1 ≤ fstAt p ts
  | [] => by simp [fstAt]
  | t :: ts => by have := fstAt_ge p ts; unfold fstAt; split <;> (try split) <;> omega
theorem fstAt_lt {α : Type} (p : α → Bool) : ∀ ts : List α, fstAt p ts < ts.length
  | [] => by simp [fstAt]
  | t :: ts => by have := fstAt_lt p ts; simp only [fstAt, List.length_cons]; split <;> (try split) <;> omega
theorem fstAt_no {α : Type} (p : α → Bool) : ∀ ts : List α, (∀ (j : Nat) t, ts[j]? = some t → p t = false) → fstAt p ts = -1
  | [], _ => rfl
  | t :: ts, h => by rw [fstAt, h 0 t rfl, fstAt_no p ts fun j u hj => h (j + 1) u (by simpa using hj)]; simp
theorem fstAt_yes {α : Type} (p : α → Bool) : ∀ (ts : List α) (j : Nat) (t : α), ts[j]? = some t → p t = true → (∀ (i : Nat) u, i < j → ts[i]? = some u → p u = false) → fstAt p ts = j
  | [], j, t, h, _, _ => by simp at h
  | u :: ts, 0, t, h, e, _ => by simp at h; subst h; rw [fstAt, e]; simp
  | u :: ts, j + 1, t, h, e, hb => by
    rw [fstAt, hb 0 u (by omega) rfl, fstAt_yes p ts j t (by simpa using h) e fun i v hi hv => hb (i + 1) v (by omega) (by simpa using hv)]
    have : ¬ ((j : Int) < 0) := by omega
    simp [this]
theorem fstAt_any {α : Type} (p : α → Bool) : ∀ ts : List α, decide (0 ≤ fstAt p ts) = ts.any p
  | [] => by simp [fstAt]
  | t :: ts => by
    have h := fstAt_any p ts
    rw [List.any_cons, ← h, fstAt]
    cases p t
    · by_cases h0 : fstAt p ts < 0
      · simp [h0] <;> omega
      · simp [h0] <;> omega
    · simp
end Go.Proofs.YtikhofcjkcbpbaaGreatDoor
/- was: DatPlain -/
namespace Go.Proofs.YtikhofcjkcbpbaaGreatDoor
open Go.RowKit

def datIs (nm : ByteArray) : Dat → Bool
  | .mk n _ => decide (n = nm)
def named (ts : List Dat) (nm : ByteArray) : Int := fstAt (datIs nm) ts
def Ty.knows (ts : List Dat) (n : ByteArray) : Bool := decide (0 ≤ named ts n)
mutual
def Ty.known (ts : List Dat) : Ty → Bool
  | .mk k n ks => if k = 2 then Ty.knows ts n else Ty.knowns ts ks
def Ty.knowns (ts : List Dat) : List Ty → Bool
  | [] => true
  | t :: us => Ty.known ts t && Ty.knowns ts us
end
theorem Ty.knowns_no (ts : List Dat) : ∀ (us : List Ty) (j : Nat) (t : Ty), us[j]? = some t → Ty.known ts t = false → Ty.knowns ts us = false
  | [], j, t, h, _ => by simp at h
  | u :: us, 0, t, h, e => by simp at h; subst h; simp [Ty.knowns, e]
  | u :: us, j + 1, t, h, e => by rw [Ty.knowns, Ty.knowns_no ts us j t (by simpa using h) e]; simp
theorem Ty.knowns_yes (ts : List Dat) : ∀ (us : List Ty), (∀ (j : Nat) t, us[j]? = some t → Ty.known ts t = true) → Ty.knowns ts us = true
  | [], _ => rfl
  | t :: us, h => by rw [Ty.knowns, h 0 t rfl, Ty.knowns_yes ts us fun j u hj => h (j + 1) u (by simpa using hj)]; rfl
def fieldOk (ts : List Dat) (t : Ty) : Bool := Ty.ok t && Ty.known ts t
def fieldsOk (ts : List Dat) : List Ty → Bool
  | [] => true
  | t :: us => fieldOk ts t && fieldsOk ts us
theorem fieldsOk_no (ts : List Dat) : ∀ (us : List Ty) (j : Nat) (t : Ty), us[j]? = some t → fieldOk ts t = false → fieldsOk ts us = false
  | [], j, t, h, _ => by simp at h
  | u :: us, 0, t, h, e => by simp at h; subst h; simp [fieldsOk, e]
  | u :: us, j + 1, t, h, e => by rw [fieldsOk, fieldsOk_no ts us j t (by simpa using h) e]; simp
theorem fieldsOk_yes (ts : List Dat) : ∀ (us : List Ty), (∀ (j : Nat) t, us[j]? = some t → fieldOk ts t = true) → fieldsOk ts us = true
  | [], _ => rfl
  | t :: us, h => by rw [fieldsOk, h 0 t rfl, fieldsOk_yes ts us fun j u hj => h (j + 1) u (by simpa using hj)]; rfl
def conOk (ts : List Dat) : Con → Bool
  | .mk n fs => isUpperB n && (decide (fs.length ≤ 3) && fieldsOk ts fs)
def conName : Con → ByteArray
  | .mk n _ => n
/-- The names of constructors, one by one: each is right and new. -/
def consFrom (ts : List Dat) : List Con → List ByteArray → Option (List ByteArray)
  | [], seen => some seen
  | c :: cs, seen => if conOk ts c && !hasStr seen (conName c) then consFrom ts cs (seen ++ [conName c]) else none
def intName : ByteArray := ⟨#[73, 110, 116]⟩
def headOk (ts : List Dat) (i : Nat) : Dat → Bool
  | .mk n qs => isUpperB n && (!(n.toList == [73, 110, 116]) && (decide (named ts n = i) && inR qs.length 1 4))
def datCons : Dat → List Con
  | .mk _ qs => qs
def datsFrom (ts : List Dat) : List Dat → Nat → List ByteArray → Bool
  | [], _, _ => true
  | d :: ds, i, seen => headOk ts i d && (match consFrom ts (datCons d) seen with | some s => datsFrom ts ds (i + 1) s | none => false)
def datasOk (ts : List Dat) : Bool := decide (ts.length ≤ 4) && datsFrom ts ts 0 []
theorem consFrom_len (ts : List Dat) : ∀ (cs : List Con) (seen s : List ByteArray), consFrom ts cs seen = some s → s.length = seen.length + cs.length
  | [], seen, s, h => by simp only [consFrom, Option.some.injEq] at h; subst h; simp
  | c :: cs, seen, s, h => by
    rw [consFrom] at h
    split at h
    · have := consFrom_len ts cs _ s h; simp at this; simp; omega
    · cases h
theorem Ty.ok_good {t : Ty} (h : Ty.ok t = true) : Ty.good t = true := by
  simp only [Ty.ok, Bool.and_eq_true] at h; exact h.1
end Go.Proofs.YtikhofcjkcbpbaaGreatDoor
/- was: PgPlain -/
namespace Go.Proofs.YtikhofcjkcbpbaaGreatDoor
open Go.RowKit

def dfIs (nm : ByteArray) : Df → Bool
  | .mk n _ _ => decide (n = nm)
def namedF (fs : List Df) (nm : ByteArray) : Int := fstAt (dfIs nm) fs
def dfOk (fs : List Df) (i : Nat) : Df → Bool
  | .mk n t b => isLowerB n && (decide (namedF fs n = i) && (Ty.ok t && Tm.ok b))
theorem dfOk_eq (fs : List Df) (i : Nat) (n : ByteArray) (t : Ty) (b : Tm) : dfOk fs i (.mk n t b) = (isLowerB n && (decide (namedF fs n = i) && (Ty.ok t && Tm.ok b))) := rfl
def dfsOk (fs : List Df) : List Df → Nat → Bool
  | [], _ => true
  | d :: ds, i => dfOk fs i d && dfsOk fs ds (i + 1)
theorem dfsOk_no (fs : List Df) : ∀ (ds : List Df) (i j : Nat) (d : Df), ds[j]? = some d → dfOk fs (i + j) d = false → dfsOk fs ds i = false
  | [], i, j, d, h, _ => by simp at h
  | u :: ds, i, 0, d, h, e => by simp at h; subst h; rw [dfsOk, show dfOk fs i u = false from e]; rfl
  | u :: ds, i, j + 1, d, h, e => by rw [dfsOk, dfsOk_no fs ds (i + 1) j d (by simpa using h) (by rw [show i + 1 + j = i + (j + 1) by omega]; exact e)]; simp
theorem dfsOk_yes (fs : List Df) : ∀ (ds : List Df) (i : Nat), (∀ (j : Nat) d, ds[j]? = some d → dfOk fs (i + j) d = true) → dfsOk fs ds i = true
  | [], _, _ => rfl
  | u :: ds, i, h => by rw [dfsOk, show dfOk fs i u = true from h 0 u rfl, dfsOk_yes fs ds (i + 1) fun j d hj => by rw [show i + 1 + j = i + (j + 1) by omega]; exact h (j + 1) d (by simpa using hj)]; rfl
def progOk (ds : List Dat) (fs : List Df) : Bool := datasOk ds && (inR fs.length 1 8 && dfsOk fs fs 0)
theorem namedF_le (fs : List Df) (j : Nat) (n : ByteArray) (t : Ty) (b : Tm) (h : fs[j]? = some (.mk n t b)) : namedF fs n ≤ j := by
  have : ∀ (fs : List Df) (j : Nat), fs[j]? = some (.mk n t b) → fstAt (dfIs n) fs ≤ j := by
    intro fs
    induction fs with
    | nil => intro j h; simp at h
    | cons u us ih =>
      intro j h
      rcases j with _ | j
      · simp at h; subst h; simp [fstAt, dfIs]
      · have := ih j (by simpa using h)
        simp only [fstAt]; split
        · omega
        · split <;> omega
  exact this fs j h
end Go.Proofs.YtikhofcjkcbpbaaGreatDoor
/- was: AnyTy -/
namespace Go.Proofs.YtikhofcjkcbpbaaGreatDoor
open Go.ChangeShapes Go.WideShapes Go.ChangeAt Go.RowKit
set_option linter.unusedVariables false

set_option maxRecDepth 100000 in
set_option maxHeartbeats 1000000 in
theorem indexFunc_Ty_1 (F : FuncId) (eF : ∀ args (w : World), (callFunc F args).run Tryz.prog w = .ok (.enter F args) w) (q0 : Value) (p : Ty → Bool) (Good : World → Prop) (hk : ∀ w w', Below w.heap.size w w' → Good w → Good w') (ts : List Ty) (a : Option Addr) (c : Nat) (w : World) (hg : Good w) (hr : RdL w (Ty.ds ts) (.slice a ts.length c))
    (hc : ∀ (k3 : Int) (n3 : ByteArray) (ks3 : List Ty) (aks3 : Option Addr) (cks3 : Nat) (j : Nat) (W : World), ts[j]? = some (Ty.mk k3 n3 ks3) → Good W → RdS W (Ty.d (Ty.mk k3 n3 ks3)) [.int .i64 k3, .string n3, .slice aks3 ks3.length cks3] → Calls Tryz.prog F #[.agg #[.int .i64 k3, .string n3, .slice aks3 ks3.length cks3], q0] W fun e w' => e = .returned (.bool (p (Ty.mk k3 n3 ks3))) ∧ Below W.heap.size W w') :
    Calls Tryz.prog 135 #[.slice a ts.length c, .func (.func F) #[] #[q0]] w fun e w' => e = .returned (.int .i64 (fstAt p ts)) ∧ Below w.heap.size w w' := by
  obtain ⟨_, _, e, h2, h3, h4⟩ := hr.eTy
  simp only [Value.slice.injEq, true_and] at e
  obtain ⟨rfl, rfl⟩ := e
  have H4 := hid h4
  have HC0 := hid hc
  have HK := hid hk
  have HG := hid hg
  clear hr h4 hc hk hg
  go_enter Tryz.func135, Tryz.ntmps135
  go_wp2_with fail
  go_loopw [5, 8] (fun _ i wr => ∃ (j : Nat), j ≤ ts.length ∧ i = .int .i64 j ∧ Hid (∀ (i : Nat) t, i < j → ts[i]? = some t → p t = false) ∧ Below w.heap.size w wr) (fun _ i _ => ts.length - (intOf i).toNat)
  case atStart => exact ⟨0, by omega, rfl, fun i t hi => absurd hi (by omega), Below.refl _ _⟩
  case round =>
    obtain ⟨j, hj, rfl, HJ, hb⟩ := hrel
    by_cases hlt : j < ts.length
    case pos =>
      obtain ⟨b, o, rfl, hbl, hall⟩ := H4.out (by omega)
      obtain ⟨t, ht⟩ : ∃ t, ts[j]? = some t := ⟨_, List.getElem?_eq_getElem hlt⟩
      obtain ⟨k3, n3, ks3⟩ := t
      obtain ⟨aks3, cks3, q_0, q_1, q_2, hrk⟩ := hall j k3 n3 ks3 ht
      clear hall H4
      have d0 := (hb.cell (p := ⟨b, o + j * 3, none⟩) hbl).trans q_0
      have d1 := (hb.cell (p := ⟨b, o + j * 3 + 1, none⟩) hbl).trans q_1
      have d2 := (hb.cell (p := ⟨b, o + j * 3 + 2, none⟩) hbl).trans q_2
      have hcc := fun hG => HC0.out k3 n3 ks3 aks3 cks3 j wr ht hG (hrk.below hb)
      have HT := hid ht
      have HGW := hid (HK.out _ _ hb HG.out)
      by_cases hq : p (Ty.mk k3 n3 ks3) = true
      case pos =>
        rw [hq] at hcc
        have HC := hid hcc
        have HQ := hid hq
        clear ht hrk q_0 q_1 q_2 hcc hq HC0
        go_wp2_with fail
        refine (HC.out HGW.out).mono ?_
        clear HC
        rintro e w1 ⟨rfl, hb1⟩
        have hbw := hb.trans (hb1.mono hb.size)
        clear hb1
        go_wp2_with fail
        go_ret
        exact ⟨ret_int (fstAt_yes p ts j _ HT.out HQ.out HJ.out).symm, hbw⟩
      case neg =>
        replace hq := (Bool.not_eq_true _).mp hq
        rw [hq] at hcc
        have HC := hid hcc
        have HQ := hid hq
        clear ht hrk q_0 q_1 q_2 hcc hq HC0
        go_wp2_with fail
        refine (HC.out HGW.out).mono ?_
        clear HC
        rintro e w1 ⟨rfl, hb1⟩
        have hbw := hb.trans (hb1.mono hb.size)
        clear hb1
        go_wp2_with fail
        go_roundw
        case rel => exact ⟨j + 1, by omega, by go_num, fun i t hi hti => (Nat.lt_succ_iff_lt_or_eq.1 hi).elim (fun hi => HJ.out i t hi hti) (fun he => by subst he; obtain rfl := Option.some.inj (hti.symm.trans HT.out); exact HQ.out), hbw⟩
        case measure => simp [intOf]; omega
    case neg =>
      go_wp2_with fail
      go_ret
      exact ⟨ret_int (fstAt_no p ts fun i t hti => HJ.out i t (by have := (List.getElem?_eq_some_iff.1 hti).1; omega) hti).symm, hb⟩
theorem contains_Ty_1 (F : FuncId) (eF : ∀ args (w : World), (callFunc F args).run Tryz.prog w = .ok (.enter F args) w) (q0 : Value) (p : Ty → Bool) (Good : World → Prop) (hk : ∀ w w', Below w.heap.size w w' → Good w → Good w') (ts : List Ty) (a : Option Addr) (c : Nat) (w : World) (hg : Good w) (hr : RdL w (Ty.ds ts) (.slice a ts.length c))
    (hc : ∀ (k3 : Int) (n3 : ByteArray) (ks3 : List Ty) (aks3 : Option Addr) (cks3 : Nat) (j : Nat) (W : World), ts[j]? = some (Ty.mk k3 n3 ks3) → Good W → RdS W (Ty.d (Ty.mk k3 n3 ks3)) [.int .i64 k3, .string n3, .slice aks3 ks3.length cks3] → Calls Tryz.prog F #[.agg #[.int .i64 k3, .string n3, .slice aks3 ks3.length cks3], q0] W fun e w' => e = .returned (.bool (p (Ty.mk k3 n3 ks3))) ∧ Below W.heap.size W w') :
    Calls Tryz.prog 115 #[.slice a ts.length c, .func (.func F) #[] #[q0]] w fun e w' => e = .returned (.bool (ts.any p)) ∧ Below w.heap.size w w' := by
  have HC := hid (indexFunc_Ty_1 F eF q0 p Good hk ts a c w hg hr hc)
  have HR := hid (fstAt_any p ts)
  clear hr hc hk hg eF
  generalize fstAt p ts = r at HC HR
  generalize ts.any p = bb at HR ⊢
  go_enter Tryz.func115, Tryz.ntmps115
  go_wp2_with fail
  refine HC.out.mono ?_
  rintro e w1 ⟨rfl, hb⟩
  go_wp2_with fail
  go_ret
  exact ⟨ret_bool HR.out, hb⟩

end Go.Proofs.YtikhofcjkcbpbaaGreatDoor
/- was: AnyDat -/
namespace Go.Proofs.YtikhofcjkcbpbaaGreatDoor
open Go.ChangeShapes Go.WideShapes Go.ChangeAt Go.RowKit
set_option linter.unusedVariables false

set_option maxRecDepth 100000 in
set_option maxHeartbeats 1000000 in
theorem indexFunc_Dat_1 (F : FuncId) (eF : ∀ args (w : World), (callFunc F args).run Tryz.prog w = .ok (.enter F args) w) (q0 : Value) (p : Dat → Bool) (Good : World → Prop) (hk : ∀ w w', Below w.heap.size w w' → Good w → Good w') (ts : List Dat) (a : Option Addr) (c : Nat) (w : World) (hg : Good w) (hr : RdL w (Dat.ds ts) (.slice a ts.length c))
    (hc : ∀ (n3 : ByteArray) (qs3 : List Con) (aqs3 : Option Addr) (cqs3 : Nat) (j : Nat) (W : World), ts[j]? = some (Dat.mk n3 qs3) → Good W → RdS W (Dat.d (Dat.mk n3 qs3)) [.string n3, .slice aqs3 qs3.length cqs3] → Calls Tryz.prog F #[.agg #[.string n3, .slice aqs3 qs3.length cqs3], q0] W fun e w' => e = .returned (.bool (p (Dat.mk n3 qs3))) ∧ Below W.heap.size W w') :
    Calls Tryz.prog 113 #[.slice a ts.length c, .func (.func F) #[] #[q0]] w fun e w' => e = .returned (.int .i64 (fstAt p ts)) ∧ Below w.heap.size w w' := by
  obtain ⟨_, _, e, h2, h3, h4⟩ := hr.eDat
  simp only [Value.slice.injEq, true_and] at e
  obtain ⟨rfl, rfl⟩ := e
  have H4 := hid h4
  have HC0 := hid hc
  have HK := hid hk
  have HG := hid hg
  clear hr h4 hc hk hg
  go_enter Tryz.func113, Tryz.ntmps113
  go_wp2_with fail
  go_loopw [5, 8] (fun _ i wr => ∃ (j : Nat), j ≤ ts.length ∧ i = .int .i64 j ∧ Hid (∀ (i : Nat) t, i < j → ts[i]? = some t → p t = false) ∧ Below w.heap.size w wr) (fun _ i _ => ts.length - (intOf i).toNat)
  case atStart => exact ⟨0, by omega, rfl, fun i t hi => absurd hi (by omega), Below.refl _ _⟩
  case round =>
    obtain ⟨j, hj, rfl, HJ, hb⟩ := hrel
    by_cases hlt : j < ts.length
    case pos =>
      obtain ⟨b, o, rfl, hbl, hall⟩ := H4.out (by omega)
      obtain ⟨t, ht⟩ : ∃ t, ts[j]? = some t := ⟨_, List.getElem?_eq_getElem hlt⟩
      obtain ⟨n3, qs3⟩ := t
      obtain ⟨aqs3, cqs3, q_0, q_1, hrk⟩ := hall j n3 qs3 ht
      clear hall H4
      have d0 := (hb.cell (p := ⟨b, o + j * 2, none⟩) hbl).trans q_0
      have d1 := (hb.cell (p := ⟨b, o + j * 2 + 1, none⟩) hbl).trans q_1
      have hcc := fun hG => HC0.out n3 qs3 aqs3 cqs3 j wr ht hG (hrk.below hb)
      have HT := hid ht
      have HGW := hid (HK.out _ _ hb HG.out)
      by_cases hq : p (Dat.mk n3 qs3) = true
      case pos =>
        rw [hq] at hcc
        have HC := hid hcc
        have HQ := hid hq
        clear ht hrk q_0 q_1 hcc hq HC0
        go_wp2_with fail
        refine (HC.out HGW.out).mono ?_
        clear HC
        rintro e w1 ⟨rfl, hb1⟩
        have hbw := hb.trans (hb1.mono hb.size)
        clear hb1
        go_wp2_with fail
        go_ret
        exact ⟨ret_int (fstAt_yes p ts j _ HT.out HQ.out HJ.out).symm, hbw⟩
      case neg =>
        replace hq := (Bool.not_eq_true _).mp hq
        rw [hq] at hcc
        have HC := hid hcc
        have HQ := hid hq
        clear ht hrk q_0 q_1 hcc hq HC0
        go_wp2_with fail
        refine (HC.out HGW.out).mono ?_
        clear HC
        rintro e w1 ⟨rfl, hb1⟩
        have hbw := hb.trans (hb1.mono hb.size)
        clear hb1
        go_wp2_with fail
        go_roundw
        case rel => exact ⟨j + 1, by omega, by go_num, fun i t hi hti => (Nat.lt_succ_iff_lt_or_eq.1 hi).elim (fun hi => HJ.out i t hi hti) (fun he => by subst he; obtain rfl := Option.some.inj (hti.symm.trans HT.out); exact HQ.out), hbw⟩
        case measure => simp [intOf]; omega
    case neg =>
      go_wp2_with fail
      go_ret
      exact ⟨ret_int (fstAt_no p ts fun i t hti => HJ.out i t (by have := (List.getElem?_eq_some_iff.1 hti).1; omega) hti).symm, hb⟩
end Go.Proofs.YtikhofcjkcbpbaaGreatDoor
/- was: AnyDf -/
namespace Go.Proofs.YtikhofcjkcbpbaaGreatDoor
open Go.ChangeShapes Go.WideShapes Go.ChangeAt Go.RowKit
set_option linter.unusedVariables false

set_option maxRecDepth 100000 in
set_option maxHeartbeats 1000000 in
theorem indexFunc_Df_1 (F : FuncId) (eF : ∀ args (w : World), (callFunc F args).run Tryz.prog w = .ok (.enter F args) w) (q0 : Value) (p : Df → Bool) (Good : World → Prop) (hk : ∀ w w', Below w.heap.size w w' → Good w → Good w') (ts : List Df) (a : Option Addr) (c : Nat) (w : World) (hg : Good w) (hr : RdL w (Df.ds ts) (.slice a ts.length c))
    (hc : ∀ (n3 : ByteArray) (tk3 : Int) (tn3 : ByteArray) (tks3 : List Ty) (bk3 : Int) (bu3 : Int) (bn3 : ByteArray) (btk3 : Int) (btn3 : ByteArray) (btks3 : List Ty) (bns3 : List ByteArray) (bks3 : List Tm) (atks3 : Option Addr) (ctks3 : Nat) (abtks3 : Option Addr) (cbtks3 : Nat) (abns3 : Option Addr) (cbns3 : Nat) (abks3 : Option Addr) (cbks3 : Nat) (j : Nat) (W : World), ts[j]? = some (Df.mk n3 (Ty.mk tk3 tn3 tks3) (Tm.mk bk3 bu3 bn3 (Ty.mk btk3 btn3 btks3) bns3 bks3)) → Good W → RdS W (Df.d (Df.mk n3 (Ty.mk tk3 tn3 tks3) (Tm.mk bk3 bu3 bn3 (Ty.mk btk3 btn3 btks3) bns3 bks3))) [.string n3, .int .i64 tk3, .string tn3, .slice atks3 tks3.length ctks3, .int .i64 bk3, .int .i64 bu3, .string bn3, .int .i64 btk3, .string btn3, .slice abtks3 btks3.length cbtks3, .slice abns3 bns3.length cbns3, .slice abks3 bks3.length cbks3] → Calls Tryz.prog F #[.agg #[.string n3, .int .i64 tk3, .string tn3, .slice atks3 tks3.length ctks3, .int .i64 bk3, .int .i64 bu3, .string bn3, .int .i64 btk3, .string btn3, .slice abtks3 btks3.length cbtks3, .slice abns3 bns3.length cbns3, .slice abks3 bks3.length cbks3], q0] W fun e w' => e = .returned (.bool (p (Df.mk n3 (Ty.mk tk3 tn3 tks3) (Tm.mk bk3 bu3 bn3 (Ty.mk btk3 btn3 btks3) bns3 bks3)))) ∧ Below W.heap.size W w') :
    Calls Tryz.prog 93 #[.slice a ts.length c, .func (.func F) #[] #[q0]] w fun e w' => e = .returned (.int .i64 (fstAt p ts)) ∧ Below w.heap.size w w' := by
  obtain ⟨_, _, e, h2, h3, h4⟩ := hr.eDf
  simp only [Value.slice.injEq, true_and] at e
  obtain ⟨rfl, rfl⟩ := e
  have H4 := hid h4
  have HC0 := hid hc
  have HK := hid hk
  have HG := hid hg
  clear hr h4 hc hk hg
  go_enter Tryz.func93, Tryz.ntmps93
  go_wp2_with fail
  go_loopw [5, 8] (fun _ i wr => ∃ (j : Nat), j ≤ ts.length ∧ i = .int .i64 j ∧ Hid (∀ (i : Nat) t, i < j → ts[i]? = some t → p t = false) ∧ Below w.heap.size w wr) (fun _ i _ => ts.length - (intOf i).toNat)
  case atStart => exact ⟨0, by omega, rfl, fun i t hi => absurd hi (by omega), Below.refl _ _⟩
  case round =>
    obtain ⟨j, hj, rfl, HJ, hb⟩ := hrel
    by_cases hlt : j < ts.length
    case pos =>
      obtain ⟨b, o, rfl, hbl, hall⟩ := H4.out (by omega)
      obtain ⟨t, ht⟩ : ∃ t, ts[j]? = some t := ⟨_, List.getElem?_eq_getElem hlt⟩
      obtain ⟨n3, ⟨tk3, tn3, tks3⟩, ⟨bk3, bu3, bn3, ⟨btk3, btn3, btks3⟩, bns3, bks3⟩⟩ := t
      obtain ⟨atks3, ctks3, abtks3, cbtks3, abns3, cbns3, abks3, cbks3, q_0, q_1, q_2, q_3, q_4, q_5, q_6, q_7, q_8, q_9, q_10, q_11, hrk⟩ := hall j n3 tk3 tn3 tks3 bk3 bu3 bn3 btk3 btn3 btks3 bns3 bks3 ht
      clear hall H4
      have d0 := (hb.cell (p := ⟨b, o + j * 12, none⟩) hbl).trans q_0
      have d1 := (hb.cell (p := ⟨b, o + j * 12 + 1, none⟩) hbl).trans q_1
      have d2 := (hb.cell (p := ⟨b, o + j * 12 + 2, none⟩) hbl).trans q_2
      have d3 := (hb.cell (p := ⟨b, o + j * 12 + 3, none⟩) hbl).trans q_3
      have d4 := (hb.cell (p := ⟨b, o + j * 12 + 4, none⟩) hbl).trans q_4
      have d5 := (hb.cell (p := ⟨b, o + j * 12 + 5, none⟩) hbl).trans q_5
      have d6 := (hb.cell (p := ⟨b, o + j * 12 + 6, none⟩) hbl).trans q_6
      have d7 := (hb.cell (p := ⟨b, o + j * 12 + 7, none⟩) hbl).trans q_7
      have d8 := (hb.cell (p := ⟨b, o + j * 12 + 8, none⟩) hbl).trans q_8
      have d9 := (hb.cell (p := ⟨b, o + j * 12 + 9, none⟩) hbl).trans q_9
      have d10 := (hb.cell (p := ⟨b, o + j * 12 + 10, none⟩) hbl).trans q_10
      have d11 := (hb.cell (p := ⟨b, o + j * 12 + 11, none⟩) hbl).trans q_11
      have hcc := fun hG => HC0.out n3 tk3 tn3 tks3 bk3 bu3 bn3 btk3 btn3 btks3 bns3 bks3 atks3 ctks3 abtks3 cbtks3 abns3 cbns3 abks3 cbks3 j wr ht hG (hrk.below hb)
      have HT := hid ht
      have HGW := hid (HK.out _ _ hb HG.out)
      by_cases hq : p (Df.mk n3 (Ty.mk tk3 tn3 tks3) (Tm.mk bk3 bu3 bn3 (Ty.mk btk3 btn3 btks3) bns3 bks3)) = true
      case pos =>
        rw [hq] at hcc
        have HC := hid hcc
        have HQ := hid hq
        clear ht hrk q_0 q_1 q_2 q_3 q_4 q_5 q_6 q_7 q_8 q_9 q_10 q_11 hcc hq HC0
        go_wp2_with fail
        refine (HC.out HGW.out).mono ?_
        clear HC
        rintro e w1 ⟨rfl, hb1⟩
        have hbw := hb.trans (hb1.mono hb.size)
        clear hb1
        go_wp2_with fail
        go_ret
        exact ⟨ret_int (fstAt_yes p ts j _ HT.out HQ.out HJ.out).symm, hbw⟩
      case neg =>
        replace hq := (Bool.not_eq_true _).mp hq
        rw [hq] at hcc
        have HC := hid hcc
        have HQ := hid hq
        clear ht hrk q_0 q_1 q_2 q_3 q_4 q_5 q_6 q_7 q_8 q_9 q_10 q_11 hcc hq HC0
        go_wp2_with fail
        refine (HC.out HGW.out).mono ?_
        clear HC
        rintro e w1 ⟨rfl, hb1⟩
        have hbw := hb.trans (hb1.mono hb.size)
        clear hb1
        go_wp2_with fail
        go_roundw
        case rel => exact ⟨j + 1, by omega, by go_num, fun i t hi hti => (Nat.lt_succ_iff_lt_or_eq.1 hi).elim (fun hi => HJ.out i t hi hti) (fun he => by subst he; obtain rfl := Option.some.inj (hti.symm.trans HT.out); exact HQ.out), hbw⟩
        case measure => simp [intOf]; omega
    case neg =>
      go_wp2_with fail
      go_ret
      exact ⟨ret_int (fstAt_no p ts fun i t hti => HJ.out i t (by have := (List.getElem?_eq_some_iff.1 hti).1; omega) hti).symm, hb⟩
end Go.Proofs.YtikhofcjkcbpbaaGreatDoor
/- was: PgNamed -/
namespace Go.Proofs.YtikhofcjkcbpbaaGreatDoor
open Go.ChangeShapes Go.WideShapes Go.ChangeAt Go.RowKit Go.BigFrame
open Go.Sort (grow)
set_option linter.unusedVariables false

theorem spec_l03Named (ts : List Df) (a : Option Addr) (c : Nat) (nm : ByteArray) (w : World) (hr : RdL w (Df.ds ts) (.slice a ts.length c)) :
    Calls Tryz.prog 84 #[.slice a ts.length c, .string nm] w fun e w' => e = .returned (.int .i64 (namedF ts nm)) ∧ w = w' := by
  obtain ⟨_, _, e, h2, h3, h4⟩ := hr.eDf
  simp only [Value.slice.injEq, true_and] at e
  obtain ⟨rfl, rfl⟩ := e
  have H4 := hid h4
  clear hr h4
  go_enter Tryz.func84, Tryz.ntmps84
  go_wp2_with fail
  go_loopw [5] (fun i wr => ∃ (j : Nat), j ≤ ts.length ∧ i = .int .i64 j ∧ Hid (∀ (i : Nat) t, i < j → ts[i]? = some t → dfIs nm t = false) ∧ w = wr) (fun i _ => ts.length - (intOf i).toNat)
  case atStart => exact ⟨0, by omega, rfl, fun i t hi => absurd hi (by omega), rfl⟩
  case round =>
    obtain ⟨j, hj, rfl, HJ, rfl⟩ := hrel
    by_cases hlt : j < ts.length
    case pos =>
      obtain ⟨b, o, rfl, hbl, hall⟩ := H4.out (by omega)
      obtain ⟨t, ht⟩ : ∃ t, ts[j]? = some t := ⟨_, List.getElem?_eq_getElem hlt⟩
      obtain ⟨n3, ⟨tk3, tn3, tks3⟩, ⟨bk3, bu3, bn3, ⟨btk3, btn3, btks3⟩, bns3, bks3⟩⟩ := t
      obtain ⟨atks3, ctks3, abtks3, cbtks3, abns3, cbns3, abks3, cbks3, q0, q1, q2, q3, q4, q5, q6, q7, q8, q9, q10, q11, hrk⟩ := hall j n3 tk3 tn3 tks3 bk3 bu3 bn3 btk3 btn3 btks3 bns3 bks3 ht
      clear hall H4
      have HT := hid ht
      by_cases hq : n3 = nm
      case pos =>
        have hb := bytes_eq hq
        have HQ := hid (show dfIs nm (Df.mk n3 (Ty.mk tk3 tn3 tks3) (Tm.mk bk3 bu3 bn3 (Ty.mk btk3 btn3 btks3) bns3 bks3)) = true by simp [dfIs, hq])
        clear hq ht hrk
        go_wp2_with fail
        go_ret
        exact ⟨ret_int (fstAt_yes _ ts j _ HT.out HQ.out HJ.out).symm, rfl⟩
      case neg =>
        have hb := bytes_ne hq
        have HQ := hid (show dfIs nm (Df.mk n3 (Ty.mk tk3 tn3 tks3) (Tm.mk bk3 bu3 bn3 (Ty.mk btk3 btn3 btks3) bns3 bks3)) = false by simp [dfIs, hq])
        clear hq ht hrk
        go_wp2_with fail
        go_roundw
        case rel => exact ⟨j + 1, by omega, by go_num, fun i t hi hti => (Nat.lt_succ_iff_lt_or_eq.1 hi).elim (fun hi => HJ.out i t hi hti) (fun he => by subst he; obtain rfl := Option.some.inj (hti.symm.trans HT.out); exact HQ.out), by first | rfl | trivial⟩
        case measure => simp [intOf]; omega
    case neg =>
      go_wp2_with fail
      go_ret
      exact ⟨ret_int (fstAt_no _ ts fun i t hti => HJ.out i t (by have := (List.getElem?_eq_some_iff.1 hti).1; omega) hti).symm, rfl⟩

theorem impl_dfIs (nm : ByteArray) (q : Addr) (n1 : ByteArray) (tk1 : Int) (tn1 : ByteArray) (tks1 : List Ty) (bk1 : Int) (bu1 : Int) (bn1 : ByteArray) (btk1 : Int) (btn1 : ByteArray) (btks1 : List Ty) (bns1 : List ByteArray) (bks1 : List Tm) (atks1 : Option Addr) (ctks1 : Nat) (abtks1 : Option Addr) (cbtks1 : Nat) (abns1 : Option Addr) (cbns1 : Nat) (abks1 : Option Addr) (cbks1 : Nat) (w : World) (hq : w.cell? q = some (.string nm)) :
    Calls Tryz.prog 94 #[.agg #[.string n1, .int .i64 tk1, .string tn1, .slice atks1 tks1.length ctks1, .int .i64 bk1, .int .i64 bu1, .string bn1, .int .i64 btk1, .string btn1, .slice abtks1 btks1.length cbtks1, .slice abns1 bns1.length cbns1, .slice abks1 bks1.length cbks1], .pointer (some q)] w fun e w' => e = .returned (.bool (dfIs nm (Df.mk n1 (Ty.mk tk1 tn1 tks1) (Tm.mk bk1 bu1 bn1 (Ty.mk btk1 btn1 btks1) bns1 bks1)))) ∧ Below w.heap.size w w' := by
  have hB := (Below.refl w.heap.size w).alloc (Nat.le_refl _) (.cells #[.string n1, .int .i64 tk1, .string tn1, .slice atks1 tks1.length ctks1, .int .i64 bk1, .int .i64 bu1, .string bn1, .int .i64 btk1, .string btn1, .slice abtks1 btks1.length cbtks1, .slice abns1 bns1.length cbns1, .slice abks1 bks1.length cbks1] 76)
  have z0 := (hB.cell (p := q) (World.block_lt_of_cell? _ _ hq)).trans hq
  have HB := hid hB
  clear hB hq
  by_cases h : n1 = nm
  case pos =>
    have hb := bytes_eq h
    have HF := hid (show dfIs nm (Df.mk n1 (Ty.mk tk1 tn1 tks1) (Tm.mk bk1 bu1 bn1 (Ty.mk btk1 btn1 btks1) bns1 bks1)) = true by simp [dfIs, h])
    clear h
    go_enter Tryz.func94, Tryz.ntmps94
    go_wp2_with fail
    go_ret
    exact ⟨ret_bool HF.out.symm, HB.out⟩
  case neg =>
    have hb := bytes_ne h
    have HF := hid (show dfIs nm (Df.mk n1 (Ty.mk tk1 tn1 tks1) (Tm.mk bk1 bu1 bn1 (Ty.mk btk1 btn1 btks1) bns1 bks1)) = false by simp [dfIs, h])
    clear h
    go_enter Tryz.func94, Tryz.ntmps94
    go_wp2_with fail
    go_ret
    exact ⟨ret_bool HF.out.symm, HB.out⟩
theorem impl_findDef (ds1 : List Dat) (ts : List Df) (ads1 : Option Addr) (cds1 : Nat) (a : Option Addr) (c : Nat) (nm : ByteArray) (w : World) (hr : RdL w (Df.ds ts) (.slice a ts.length c)) :
    Calls Tryz.prog 66 #[.agg #[.slice ads1 ds1.length cds1, .slice a ts.length c], .string nm] w fun e w' => e = .returned (.int .i64 (namedF ts nm)) ∧ Below w.heap.size w w' := by
  have hB := ((Below.refl w.heap.size w).alloc (Nat.le_refl _) (.cells #[.slice ads1 ds1.length cds1, .slice a ts.length c] 49)).alloc (by simp) (.cells #[.string nm] 9)
  have HX0 := hid (((Boxes.nil w).alloc #[.slice ads1 ds1.length cds1, .slice a ts.length c] 49 (0, 0)).alloc #[.string nm] 9 (0, 0))
  have hq := HX0.out.at 0 0 rfl rfl
  simp only [World.size_alloc] at hq
  have hc := indexFunc_Df_1 94 Tryz.call94 (.pointer (some ⟨w.heap.size + 1, 0, none⟩)) (dfIs nm) (fun W => W.cell? ⟨w.heap.size + 1, 0, none⟩ = some (.string nm)) (fun x y hab h => (hab.cell (p := ⟨w.heap.size + 1, 0, none⟩) (World.block_lt_of_cell? _ _ h)).trans h) ts a c _ hq (hr.below hB)
    (fun n3 tk3 tn3 tks3 bk3 bu3 bn3 btk3 btn3 btks3 bns3 bks3 atks3 ctks3 abtks3 cbtks3 abns3 cbns3 abks3 cbks3 j W _ hW hrw => impl_dfIs nm _ n3 tk3 tn3 tks3 bk3 bu3 bn3 btk3 btn3 btks3 bns3 bks3 atks3 ctks3 abtks3 cbtks3 abns3 cbns3 abks3 cbks3 W hW)
  have x0 := HX0.out.at 1 0 rfl rfl
  have x1 := HX0.out.at 1 1 rfl rfl
  have HC := hid hc
  have HB := hid hB
  clear hc hr hB HX0 hq
  go_enter Tryz.func66, Tryz.ntmps66
  go_wp2_with fail
  refine HC.out.mono ?_
  rintro e w1 ⟨rfl, hb⟩
  have HB1 := hid (HB.out.trans (hb.mono HB.out.size))
  clear hb x0 x1
  go_wp2_with fail
  go_ret
  exact ⟨rfl, HB1.out⟩
end Go.Proofs.YtikhofcjkcbpbaaGreatDoor
/- was: SzCon -/
namespace Go.Proofs.YtikhofcjkcbpbaaGreatDoor
open Go.ChangeShapes Go.WideShapes Go.ChangeAt Go.RowKit
open Go.Sort (grow)
set_option linter.unusedVariables false

abbrev SzCon : Prop := ∀ (n : ByteArray) (fs : List Ty) (afs : Option Addr) (cfs : Nat) (left : Int) (w : World), RdS w (Con.d (Con.mk n fs)) [.string n, .slice afs fs.length cfs] → 0 ≤ left → left ≤ 1048576 →
  Calls Tryz.prog 106 #[.agg #[.string n, .slice afs fs.length cfs], .int .i64 left] w fun e w' => e = .returned (.int .i64 (purse left (Con.bulk (Con.mk n fs)))) ∧ Below w.heap.size w w'
theorem szCon : SzCon := by
  intro n fs afs cfs left w hr h0 h1
  have hbk : Con.bulk (Con.mk n fs) = n.size + Ty.bulks fs := rfl
  obtain ⟨zn, hfs⟩ := hr.fCon
  by_cases hp0 : ((n.size : Nat) : Int) ≤ left
  case neg =>
    have HBK := hid hbk
    have HX0 := hid ((Boxes.nil w).alloc #[.string n, .slice afs fs.length cfs] 152 (0, 0))
    have hbw0 : Below w.heap.size w (w.alloc (.cells #[.string n, .slice afs fs.length cfs] 152)) := (Below.refl _ _).alloc (Nat.le_refl _) _
    have HBW := hid hbw0
    clear hr hbk hbw0 hfs
    go_enter Tryz.func106, Tryz.ntmps106
    go_wp2_with fail
    go_ret
    exact ⟨ret_int (by rw [purse_no (by have := HBK.out; omega)]), HBW.out⟩
  case pos =>
    skip
    have hc1 := fun (W : World) (hb : Below w.heap.size w W) => (szTys fs afs cfs (left - n.size) W (hfs.below hb) (by omega) (by omega))
    by_cases hp1 : ((Ty.bulks fs : Nat) : Int) ≤ left - n.size
    case neg =>
      rw [purse_no hp1] at hc1
      have HC1 := hid hc1
      have HBK := hid hbk
      have HX0 := hid ((Boxes.nil w).alloc #[.string n, .slice afs fs.length cfs] 152 (0, 0))
      have hbw0 : Below w.heap.size w (w.alloc (.cells #[.string n, .slice afs fs.length cfs] 152)) := (Below.refl _ _).alloc (Nat.le_refl _) _
      have HBW := hid hbw0
      clear hr hbk hbw0 hc1 hfs
      go_enter Tryz.func106, Tryz.ntmps106
      go_wp2_with fail
      refine (HC1.out _ HBW.out).mono ?_
      rintro e w1 ⟨rfl, hb1⟩
      have hbw1 := HBW.out.trans (hb1.mono (by simp))
      have hx1 := HX0.out.below hb1
      have HX1 := hid hx1
      clear hx1 hb1 HC1
      go_wp2_with fail
      go_ret
      exact ⟨ret_int (by rw [purse_no (by have := HBK.out; omega)]), hbw1⟩
    case pos =>
      rw [purse_ok hp1] at hc1
      have HC1 := hid hc1
      have HBK := hid hbk
      have HX0 := hid ((Boxes.nil w).alloc #[.string n, .slice afs fs.length cfs] 152 (0, 0))
      have hbw0 : Below w.heap.size w (w.alloc (.cells #[.string n, .slice afs fs.length cfs] 152)) := (Below.refl _ _).alloc (Nat.le_refl _) _
      have HBW := hid hbw0
      clear hr hbk hbw0 hc1 hfs
      go_enter Tryz.func106, Tryz.ntmps106
      go_wp2_with fail
      refine (HC1.out _ HBW.out).mono ?_
      rintro e w1 ⟨rfl, hb1⟩
      have hbw1 := HBW.out.trans (hb1.mono (by simp))
      have hx1 := HX0.out.below hb1
      have HX1 := hid hx1
      clear hx1 hb1 HC1
      go_wp2_with fail
      go_ret
      exact ⟨ret_int (by rw [purse_ok (by have := HBK.out; omega)]; have := HBK.out; omega), hbw1⟩

theorem szCons (ts : List Con) (a : Option Addr) (c : Nat) (left : Int) (w : World) (hr : RdL w (Con.ds ts) (.slice a ts.length c)) (h0 : 0 ≤ left) (h1 : left ≤ 1048576) :
    Calls Tryz.prog 80 #[.slice a ts.length c, .int .i64 left] w fun e w' => e = .returned (.int .i64 (purse left (Con.bulks ts))) ∧ Below w.heap.size w w' := by
  obtain ⟨_, _, e, h2, h3, h4⟩ := hr.eCon
  simp only [Value.slice.injEq, true_and] at e
  obtain ⟨rfl, rfl⟩ := e
  have hl := Con.bulks_length ts
  skip
  have H4 := hid h4
  clear hr h4 
  by_cases hs : left < ts.length
  · rw [purse_no (by omega)]
    go_enter Tryz.func80, Tryz.ntmps80
    go_wp2_with fail
    go_ret
    exact ⟨rfl, Below.refl _ _⟩
  · have hd0 : decide (left - (ts.length : Int) < 0) = false := by simp; omega
    go_enter Tryz.func80, Tryz.ntmps80
    go_wp2_with fail
    go_loopw [1, 5] (fun l i wr => ∃ (j : Nat) (L : Int), j ≤ ts.length ∧ i = .int .i64 j ∧ l = .int .i64 L ∧ Hid (L + (Con.bulks (ts.take j) + ts.length : Nat) = left + j) ∧ 0 ≤ L ∧ L ≤ 1048576 ∧ Below w.heap.size w wr) (fun _ i _ => ts.length - (intOf i).toNat)
    case atStart => exact ⟨0, left - ts.length, by omega, rfl, rfl, by show _ = _; simp [Con.bulks], by omega, by omega, Below.refl _ _⟩
    case round =>
      obtain ⟨j, L, hj, rfl, rfl, HL, hL0, hL1, hb⟩ := hrel
      by_cases hlt : j < ts.length
      · obtain ⟨b, o, rfl, hbl, hall⟩ := H4.out (by omega)
        obtain ⟨t, ht⟩ : ∃ t, ts[j]? = some t := ⟨_, List.getElem?_eq_getElem hlt⟩
        obtain ⟨n1, fs1⟩ := t
        obtain ⟨afs1, cfs1, q0, q1, hrk⟩ := hall j n1 fs1 ht
        clear hall H4
        have d0 := (hb.cell (p := ⟨b, o + j * 2, none⟩) hbl).trans q0
        have d1 := (hb.cell (p := ⟨b, o + j * 2 + 1, none⟩) hbl).trans q1
        have HT := hid ht
        have hc := szCon n1 fs1 afs1 cfs1 L wr (hrk.below hb) hL0 hL1
        have hst := Con.bulks_take ts j _ ht
        have hle := Con.bulks_le ts (j + 1)
        by_cases hp : ((Con.bulk (Con.mk n1 fs1) : Nat) : Int) ≤ L
        · rw [purse_ok hp] at hc
          have HC := hid hc
          have HS := hid hst
          clear ht hrk q0 q1 hc hst
          go_wp2_with fail
          refine HC.out.mono ?_
          clear HC
          rintro e w1 ⟨rfl, hb1⟩
          go_wp2_with fail
          go_roundw
          case rel => exact ⟨j + 1, _, by omega, by go_num, rfl, by show _ = _; have := HL.out; have := HS.out; omega, by omega, by omega, hb.trans (hb1.mono hb.size)⟩
          case measure => simp [intOf]; omega
        · rw [purse_no hp] at hc
          have HC := hid hc
          have HS := hid hst
          clear ht hrk q0 q1 hc hst
          go_wp2_with fail
          refine HC.out.mono ?_
          clear HC
          rintro e w1 ⟨rfl, hb1⟩
          go_wp2_with fail
          go_ret
          exact ⟨ret_int (by rw [purse_no (by have := HL.out; have := HS.out; omega)]), hb.trans (hb1.mono hb.size)⟩
      · obtain rfl : j = ts.length := by omega
        rw [List.take_length] at HL
        go_wp2_with fail
        go_ret
        exact ⟨ret_int (by rw [purse_ok (by have := HL.out; omega)]; have := HL.out; omega), hb⟩

end Go.Proofs.YtikhofcjkcbpbaaGreatDoor
/- was: SzDat -/
namespace Go.Proofs.YtikhofcjkcbpbaaGreatDoor
open Go.ChangeShapes Go.WideShapes Go.ChangeAt Go.RowKit
open Go.Sort (grow)
set_option linter.unusedVariables false

abbrev SzDat : Prop := ∀ (n : ByteArray) (qs : List Con) (aqs : Option Addr) (cqs : Nat) (left : Int) (w : World), RdS w (Dat.d (Dat.mk n qs)) [.string n, .slice aqs qs.length cqs] → 0 ≤ left → left ≤ 1048576 →
  Calls Tryz.prog 56 #[.agg #[.string n, .slice aqs qs.length cqs], .int .i64 left] w fun e w' => e = .returned (.int .i64 (purse left (Dat.bulk (Dat.mk n qs)))) ∧ Below w.heap.size w w'
theorem szDat : SzDat := by
  intro n qs aqs cqs left w hr h0 h1
  have hbk : Dat.bulk (Dat.mk n qs) = n.size + Con.bulks qs := rfl
  obtain ⟨zn, hqs⟩ := hr.fDat
  by_cases hp0 : ((n.size : Nat) : Int) ≤ left
  case neg =>
    have HBK := hid hbk
    have HX0 := hid ((Boxes.nil w).alloc #[.string n, .slice aqs qs.length cqs] 110 (0, 0))
    have hbw0 : Below w.heap.size w (w.alloc (.cells #[.string n, .slice aqs qs.length cqs] 110)) := (Below.refl _ _).alloc (Nat.le_refl _) _
    have HBW := hid hbw0
    clear hr hbk hbw0 hqs
    go_enter Tryz.func56, Tryz.ntmps56
    go_wp2_with fail
    go_ret
    exact ⟨ret_int (by rw [purse_no (by have := HBK.out; omega)]), HBW.out⟩
  case pos =>
    skip
    have hc1 := fun (W : World) (hb : Below w.heap.size w W) => (szCons qs aqs cqs (left - n.size) W (hqs.below hb) (by omega) (by omega))
    by_cases hp1 : ((Con.bulks qs : Nat) : Int) ≤ left - n.size
    case neg =>
      rw [purse_no hp1] at hc1
      have HC1 := hid hc1
      have HBK := hid hbk
      have HX0 := hid ((Boxes.nil w).alloc #[.string n, .slice aqs qs.length cqs] 110 (0, 0))
      have hbw0 : Below w.heap.size w (w.alloc (.cells #[.string n, .slice aqs qs.length cqs] 110)) := (Below.refl _ _).alloc (Nat.le_refl _) _
      have HBW := hid hbw0
      clear hr hbk hbw0 hc1 hqs
      go_enter Tryz.func56, Tryz.ntmps56
      go_wp2_with fail
      refine (HC1.out _ HBW.out).mono ?_
      rintro e w1 ⟨rfl, hb1⟩
      have hbw1 := HBW.out.trans (hb1.mono (by simp))
      have hx1 := HX0.out.below hb1
      have HX1 := hid hx1
      clear hx1 hb1 HC1
      go_wp2_with fail
      go_ret
      exact ⟨ret_int (by rw [purse_no (by have := HBK.out; omega)]), hbw1⟩
    case pos =>
      rw [purse_ok hp1] at hc1
      have HC1 := hid hc1
      have HBK := hid hbk
      have HX0 := hid ((Boxes.nil w).alloc #[.string n, .slice aqs qs.length cqs] 110 (0, 0))
      have hbw0 : Below w.heap.size w (w.alloc (.cells #[.string n, .slice aqs qs.length cqs] 110)) := (Below.refl _ _).alloc (Nat.le_refl _) _
      have HBW := hid hbw0
      clear hr hbk hbw0 hc1 hqs
      go_enter Tryz.func56, Tryz.ntmps56
      go_wp2_with fail
      refine (HC1.out _ HBW.out).mono ?_
      rintro e w1 ⟨rfl, hb1⟩
      have hbw1 := HBW.out.trans (hb1.mono (by simp))
      have hx1 := HX0.out.below hb1
      have HX1 := hid hx1
      clear hx1 hb1 HC1
      go_wp2_with fail
      go_ret
      exact ⟨ret_int (by rw [purse_ok (by have := HBK.out; omega)]; have := HBK.out; omega), hbw1⟩

theorem szDats (ts : List Dat) (a : Option Addr) (c : Nat) (left : Int) (w : World) (hr : RdL w (Dat.ds ts) (.slice a ts.length c)) (h0 : 0 ≤ left) (h1 : left ≤ 1048576) :
    Calls Tryz.prog 29 #[.slice a ts.length c, .int .i64 left] w fun e w' => e = .returned (.int .i64 (purse left (Dat.bulks ts))) ∧ Below w.heap.size w w' := by
  obtain ⟨_, _, e, h2, h3, h4⟩ := hr.eDat
  simp only [Value.slice.injEq, true_and] at e
  obtain ⟨rfl, rfl⟩ := e
  have hl := Dat.bulks_length ts
  skip
  have H4 := hid h4
  clear hr h4 
  by_cases hs : left < ts.length
  · rw [purse_no (by omega)]
    go_enter Tryz.func29, Tryz.ntmps29
    go_wp2_with fail
    go_ret
    exact ⟨rfl, Below.refl _ _⟩
  · have hd0 : decide (left - (ts.length : Int) < 0) = false := by simp; omega
    go_enter Tryz.func29, Tryz.ntmps29
    go_wp2_with fail
    go_loopw [1, 5] (fun l i wr => ∃ (j : Nat) (L : Int), j ≤ ts.length ∧ i = .int .i64 j ∧ l = .int .i64 L ∧ Hid (L + (Dat.bulks (ts.take j) + ts.length : Nat) = left + j) ∧ 0 ≤ L ∧ L ≤ 1048576 ∧ Below w.heap.size w wr) (fun _ i _ => ts.length - (intOf i).toNat)
    case atStart => exact ⟨0, left - ts.length, by omega, rfl, rfl, by show _ = _; simp [Dat.bulks], by omega, by omega, Below.refl _ _⟩
    case round =>
      obtain ⟨j, L, hj, rfl, rfl, HL, hL0, hL1, hb⟩ := hrel
      by_cases hlt : j < ts.length
      · obtain ⟨b, o, rfl, hbl, hall⟩ := H4.out (by omega)
        obtain ⟨t, ht⟩ : ∃ t, ts[j]? = some t := ⟨_, List.getElem?_eq_getElem hlt⟩
        obtain ⟨n1, qs1⟩ := t
        obtain ⟨aqs1, cqs1, q0, q1, hrk⟩ := hall j n1 qs1 ht
        clear hall H4
        have d0 := (hb.cell (p := ⟨b, o + j * 2, none⟩) hbl).trans q0
        have d1 := (hb.cell (p := ⟨b, o + j * 2 + 1, none⟩) hbl).trans q1
        have HT := hid ht
        have hc := szDat n1 qs1 aqs1 cqs1 L wr (hrk.below hb) hL0 hL1
        have hst := Dat.bulks_take ts j _ ht
        have hle := Dat.bulks_le ts (j + 1)
        by_cases hp : ((Dat.bulk (Dat.mk n1 qs1) : Nat) : Int) ≤ L
        · rw [purse_ok hp] at hc
          have HC := hid hc
          have HS := hid hst
          clear ht hrk q0 q1 hc hst
          go_wp2_with fail
          refine HC.out.mono ?_
          clear HC
          rintro e w1 ⟨rfl, hb1⟩
          go_wp2_with fail
          go_roundw
          case rel => exact ⟨j + 1, _, by omega, by go_num, rfl, by show _ = _; have := HL.out; have := HS.out; omega, by omega, by omega, hb.trans (hb1.mono hb.size)⟩
          case measure => simp [intOf]; omega
        · rw [purse_no hp] at hc
          have HC := hid hc
          have HS := hid hst
          clear ht hrk q0 q1 hc hst
          go_wp2_with fail
          refine HC.out.mono ?_
          clear HC
          rintro e w1 ⟨rfl, hb1⟩
          go_wp2_with fail
          go_ret
          exact ⟨ret_int (by rw [purse_no (by have := HL.out; have := HS.out; omega)]), hb.trans (hb1.mono hb.size)⟩
      · obtain rfl : j = ts.length := by omega
        rw [List.take_length] at HL
        go_wp2_with fail
        go_ret
        exact ⟨ret_int (by rw [purse_ok (by have := HL.out; omega)]; have := HL.out; omega), hb⟩

end Go.Proofs.YtikhofcjkcbpbaaGreatDoor
/- was: SzDf -/
namespace Go.Proofs.YtikhofcjkcbpbaaGreatDoor
open Go.ChangeShapes Go.WideShapes Go.ChangeAt Go.RowKit
open Go.Sort (grow)
set_option linter.unusedVariables false

theorem RdS.subDf_t {w : World} {n : ByteArray} {tk : Int} {tn : ByteArray} {tks : List Ty} {bk : Int} {bu : Int} {bn : ByteArray} {btk : Int} {btn : ByteArray} {btks : List Ty} {bns : List ByteArray} {bks : List Tm} {atks : Option Addr} {ctks : Nat} {abtks : Option Addr} {cbtks : Nat} {abns : Option Addr} {cbns : Nat} {abks : Option Addr} {cbks : Nat} (h : RdS w (Df.d (Df.mk n (Ty.mk tk tn tks) (Tm.mk bk bu bn (Ty.mk btk btn btks) bns bks))) [.string n, .int .i64 tk, .string tn, .slice atks tks.length ctks, .int .i64 bk, .int .i64 bu, .string bn, .int .i64 btk, .string btn, .slice abtks btks.length cbtks, .slice abns bns.length cbns, .slice abks bks.length cbks]) : RdS w (Ty.d (Ty.mk tk tn tks)) [.int .i64 tk, .string tn, .slice atks tks.length ctks] := by
  obtain ⟨F, h⟩ := h
  obtain ⟨e1, r1, F1, G1, x1, rfl, g1, k1⟩ := h.struct_inv.cons_inv
  have l1 := g1.length
  obtain ⟨e2, r2, F2, G2, x2, rfl, g2, k2⟩ := k1.cons_inv
  have l2 := g2.length
  refine ⟨F2, ?_⟩
  simp only [D.len] at l1
  rw [Ty.d_len] at l2
  match e1, l1 with
  | [y1_0], _ =>
  simp only [List.cons_append, List.nil_append, List.cons.injEq] at x1
  obtain ⟨rfl, x1'⟩ := x1
  subst x1'
  match e2, l2 with
  | [y2_0, y2_1, y2_2], _ =>
  simp only [List.cons_append, List.nil_append, List.cons.injEq] at x2
  obtain ⟨rfl, rfl, rfl, x2'⟩ := x2
  exact g2
theorem RdS.subDf_b {w : World} {n : ByteArray} {tk : Int} {tn : ByteArray} {tks : List Ty} {bk : Int} {bu : Int} {bn : ByteArray} {btk : Int} {btn : ByteArray} {btks : List Ty} {bns : List ByteArray} {bks : List Tm} {atks : Option Addr} {ctks : Nat} {abtks : Option Addr} {cbtks : Nat} {abns : Option Addr} {cbns : Nat} {abks : Option Addr} {cbks : Nat} (h : RdS w (Df.d (Df.mk n (Ty.mk tk tn tks) (Tm.mk bk bu bn (Ty.mk btk btn btks) bns bks))) [.string n, .int .i64 tk, .string tn, .slice atks tks.length ctks, .int .i64 bk, .int .i64 bu, .string bn, .int .i64 btk, .string btn, .slice abtks btks.length cbtks, .slice abns bns.length cbns, .slice abks bks.length cbks]) : RdS w (Tm.d (Tm.mk bk bu bn (Ty.mk btk btn btks) bns bks)) [.int .i64 bk, .int .i64 bu, .string bn, .int .i64 btk, .string btn, .slice abtks btks.length cbtks, .slice abns bns.length cbns, .slice abks bks.length cbks] := by
  obtain ⟨F, h⟩ := h
  obtain ⟨e1, r1, F1, G1, x1, rfl, g1, k1⟩ := h.struct_inv.cons_inv
  have l1 := g1.length
  obtain ⟨e2, r2, F2, G2, x2, rfl, g2, k2⟩ := k1.cons_inv
  have l2 := g2.length
  obtain ⟨e3, r3, F3, G3, x3, rfl, g3, k3⟩ := k2.cons_inv
  have l3 := g3.length
  refine ⟨F3, ?_⟩
  simp only [D.len] at l1
  rw [Ty.d_len] at l2
  rw [Tm.d_len] at l3
  match e1, l1 with
  | [y1_0], _ =>
  simp only [List.cons_append, List.nil_append, List.cons.injEq] at x1
  obtain ⟨rfl, x1'⟩ := x1
  subst x1'
  match e2, l2 with
  | [y2_0, y2_1, y2_2], _ =>
  simp only [List.cons_append, List.nil_append, List.cons.injEq] at x2
  obtain ⟨rfl, rfl, rfl, x2'⟩ := x2
  subst x2'
  match e3, l3 with
  | [y3_0, y3_1, y3_2, y3_3, y3_4, y3_5, y3_6, y3_7], _ =>
  simp only [List.cons_append, List.nil_append, List.cons.injEq] at x3
  obtain ⟨rfl, rfl, rfl, rfl, rfl, rfl, rfl, rfl, x3'⟩ := x3
  exact g3
abbrev SzDf : Prop := ∀ (n : ByteArray) (tk : Int) (tn : ByteArray) (tks : List Ty) (bk : Int) (bu : Int) (bn : ByteArray) (btk : Int) (btn : ByteArray) (btks : List Ty) (bns : List ByteArray) (bks : List Tm) (atks : Option Addr) (ctks : Nat) (abtks : Option Addr) (cbtks : Nat) (abns : Option Addr) (cbns : Nat) (abks : Option Addr) (cbks : Nat) (left : Int) (w : World), RdS w (Df.d (Df.mk n (Ty.mk tk tn tks) (Tm.mk bk bu bn (Ty.mk btk btn btks) bns bks))) [.string n, .int .i64 tk, .string tn, .slice atks tks.length ctks, .int .i64 bk, .int .i64 bu, .string bn, .int .i64 btk, .string btn, .slice abtks btks.length cbtks, .slice abns bns.length cbns, .slice abks bks.length cbks] → 0 ≤ left → left ≤ 1048576 →
  Calls Tryz.prog 57 #[.agg #[.string n, .int .i64 tk, .string tn, .slice atks tks.length ctks, .int .i64 bk, .int .i64 bu, .string bn, .int .i64 btk, .string btn, .slice abtks btks.length cbtks, .slice abns bns.length cbns, .slice abks bks.length cbks], .int .i64 left] w fun e w' => e = .returned (.int .i64 (purse left (Df.bulk (Df.mk n (Ty.mk tk tn tks) (Tm.mk bk bu bn (Ty.mk btk btn btks) bns bks))))) ∧ Below w.heap.size w w'
theorem szDf : SzDf := by
  intro n tk tn tks bk bu bn btk btn btks bns bks atks ctks abtks cbtks abns cbns abks cbks left w hr h0 h1
  have hbk : Df.bulk (Df.mk n (Ty.mk tk tn tks) (Tm.mk bk bu bn (Ty.mk btk btn btks) bns bks)) = n.size + Ty.bulk (Ty.mk tk tn tks) + Tm.bulk (Tm.mk bk bu bn (Ty.mk btk btn btks) bns bks) := rfl
  obtain ⟨zn, ⟨⟨lotk, hitk⟩, ztn, htks⟩, ⟨⟨lobk, hibk⟩, ⟨lobu, hibu⟩, zbn, ⟨⟨lobtk, hibtk⟩, zbtn, hbtks⟩, hbns, hbks⟩⟩ := hr.fDf
  by_cases hp0 : ((n.size : Nat) : Int) ≤ left
  case neg =>
    have HBK := hid hbk
    have HX0 := hid ((Boxes.nil w).alloc #[.string n, .int .i64 tk, .string tn, .slice atks tks.length ctks, .int .i64 bk, .int .i64 bu, .string bn, .int .i64 btk, .string btn, .slice abtks btks.length cbtks, .slice abns bns.length cbns, .slice abks bks.length cbks] 113 (0, 0))
    have hbw0 : Below w.heap.size w (w.alloc (.cells #[.string n, .int .i64 tk, .string tn, .slice atks tks.length ctks, .int .i64 bk, .int .i64 bu, .string bn, .int .i64 btk, .string btn, .slice abtks btks.length cbtks, .slice abns bns.length cbns, .slice abks bks.length cbks] 113)) := (Below.refl _ _).alloc (Nat.le_refl _) _
    have HBW := hid hbw0
    clear hr hbk hbw0 htks hbtks hbns hbks
    go_enter Tryz.func57, Tryz.ntmps57
    go_wp2_with fail
    go_ret
    exact ⟨ret_int (by rw [purse_no (by have := HBK.out; omega)]), HBW.out⟩
  case pos =>
    skip
    have hc1 := fun (W : World) (hb : Below w.heap.size w W) => (szTy tk tn tks atks ctks (left - n.size) W ((RdS.subDf_t hr).below hb) (by omega) (by omega))
    by_cases hp1 : ((Ty.bulk (Ty.mk tk tn tks) : Nat) : Int) ≤ left - n.size
    case neg =>
      rw [purse_no hp1] at hc1
      have HC1 := hid hc1
      have HBK := hid hbk
      have HX0 := hid ((Boxes.nil w).alloc #[.string n, .int .i64 tk, .string tn, .slice atks tks.length ctks, .int .i64 bk, .int .i64 bu, .string bn, .int .i64 btk, .string btn, .slice abtks btks.length cbtks, .slice abns bns.length cbns, .slice abks bks.length cbks] 113 (0, 0))
      have hbw0 : Below w.heap.size w (w.alloc (.cells #[.string n, .int .i64 tk, .string tn, .slice atks tks.length ctks, .int .i64 bk, .int .i64 bu, .string bn, .int .i64 btk, .string btn, .slice abtks btks.length cbtks, .slice abns bns.length cbns, .slice abks bks.length cbks] 113)) := (Below.refl _ _).alloc (Nat.le_refl _) _
      have HBW := hid hbw0
      clear hr hbk hbw0 hc1 htks hbtks hbns hbks
      go_enter Tryz.func57, Tryz.ntmps57
      go_wp2_with fail
      refine (HC1.out _ HBW.out).mono ?_
      rintro e w1 ⟨rfl, hb1⟩
      have hbw1 := HBW.out.trans (hb1.mono (by simp))
      have hx1 := HX0.out.below hb1
      have HX1 := hid hx1
      clear hx1 hb1 HC1
      go_wp2_with fail
      go_ret
      exact ⟨ret_int (by rw [purse_no (by have := HBK.out; omega)]), hbw1⟩
    case pos =>
      rw [purse_ok hp1] at hc1
      have hc2 := fun (W : World) (hb : Below w.heap.size w W) => (szTm bk bu bn btk btn btks bns bks abtks cbtks abns cbns abks cbks (left - n.size - (Ty.bulk (Ty.mk tk tn tks) : Nat)) W ((RdS.subDf_b hr).below hb) (by omega) (by omega))
      by_cases hp2 : ((Tm.bulk (Tm.mk bk bu bn (Ty.mk btk btn btks) bns bks) : Nat) : Int) ≤ left - n.size - (Ty.bulk (Ty.mk tk tn tks) : Nat)
      case neg =>
        rw [purse_no hp2] at hc2
        have HC1 := hid hc1
        have HC2 := hid hc2
        have HBK := hid hbk
        have HX0 := hid ((Boxes.nil w).alloc #[.string n, .int .i64 tk, .string tn, .slice atks tks.length ctks, .int .i64 bk, .int .i64 bu, .string bn, .int .i64 btk, .string btn, .slice abtks btks.length cbtks, .slice abns bns.length cbns, .slice abks bks.length cbks] 113 (0, 0))
        have hbw0 : Below w.heap.size w (w.alloc (.cells #[.string n, .int .i64 tk, .string tn, .slice atks tks.length ctks, .int .i64 bk, .int .i64 bu, .string bn, .int .i64 btk, .string btn, .slice abtks btks.length cbtks, .slice abns bns.length cbns, .slice abks bks.length cbks] 113)) := (Below.refl _ _).alloc (Nat.le_refl _) _
        have HBW := hid hbw0
        clear hr hbk hbw0 hc1 hc2 htks hbtks hbns hbks
        go_enter Tryz.func57, Tryz.ntmps57
        go_wp2_with fail
        refine (HC1.out _ HBW.out).mono ?_
        rintro e w1 ⟨rfl, hb1⟩
        have hbw1 := HBW.out.trans (hb1.mono (by simp))
        have hx1 := HX0.out.below hb1
        have g1_4 := hx1.at 0 4 rfl rfl
        have g1_5 := hx1.at 0 5 rfl rfl
        have g1_6 := hx1.at 0 6 rfl rfl
        have g1_7 := hx1.at 0 7 rfl rfl
        have g1_8 := hx1.at 0 8 rfl rfl
        have g1_9 := hx1.at 0 9 rfl rfl
        have g1_10 := hx1.at 0 10 rfl rfl
        have g1_11 := hx1.at 0 11 rfl rfl
        have HX1 := hid hx1
        clear hx1 hb1 HC1
        go_wp2_with fail
        refine (HC2.out _ hbw1).mono ?_
        rintro e w2 ⟨rfl, hb2⟩
        have hbw2 := hbw1.trans (hb2.mono hbw1.size)
        have hx2 := HX1.out.below hb2
        have HX2 := hid hx2
        clear hx2 hb2 HC2
        go_wp2_with fail
        go_ret
        exact ⟨ret_int (by rw [purse_no (by have := HBK.out; omega)]), hbw2⟩
      case pos =>
        rw [purse_ok hp2] at hc2
        have HC1 := hid hc1
        have HC2 := hid hc2
        have HBK := hid hbk
        have HX0 := hid ((Boxes.nil w).alloc #[.string n, .int .i64 tk, .string tn, .slice atks tks.length ctks, .int .i64 bk, .int .i64 bu, .string bn, .int .i64 btk, .string btn, .slice abtks btks.length cbtks, .slice abns bns.length cbns, .slice abks bks.length cbks] 113 (0, 0))
        have hbw0 : Below w.heap.size w (w.alloc (.cells #[.string n, .int .i64 tk, .string tn, .slice atks tks.length ctks, .int .i64 bk, .int .i64 bu, .string bn, .int .i64 btk, .string btn, .slice abtks btks.length cbtks, .slice abns bns.length cbns, .slice abks bks.length cbks] 113)) := (Below.refl _ _).alloc (Nat.le_refl _) _
        have HBW := hid hbw0
        clear hr hbk hbw0 hc1 hc2 htks hbtks hbns hbks
        go_enter Tryz.func57, Tryz.ntmps57
        go_wp2_with fail
        refine (HC1.out _ HBW.out).mono ?_
        rintro e w1 ⟨rfl, hb1⟩
        have hbw1 := HBW.out.trans (hb1.mono (by simp))
        have hx1 := HX0.out.below hb1
        have g1_4 := hx1.at 0 4 rfl rfl
        have g1_5 := hx1.at 0 5 rfl rfl
        have g1_6 := hx1.at 0 6 rfl rfl
        have g1_7 := hx1.at 0 7 rfl rfl
        have g1_8 := hx1.at 0 8 rfl rfl
        have g1_9 := hx1.at 0 9 rfl rfl
        have g1_10 := hx1.at 0 10 rfl rfl
        have g1_11 := hx1.at 0 11 rfl rfl
        have HX1 := hid hx1
        clear hx1 hb1 HC1
        go_wp2_with fail
        refine (HC2.out _ hbw1).mono ?_
        rintro e w2 ⟨rfl, hb2⟩
        have hbw2 := hbw1.trans (hb2.mono hbw1.size)
        have hx2 := HX1.out.below hb2
        have HX2 := hid hx2
        clear hx2 hb2 HC2
        go_wp2_with fail
        go_ret
        exact ⟨ret_int (by rw [purse_ok (by have := HBK.out; omega)]; have := HBK.out; omega), hbw2⟩

theorem szDfs (ts : List Df) (a : Option Addr) (c : Nat) (left : Int) (w : World) (hr : RdL w (Df.ds ts) (.slice a ts.length c)) (h0 : 0 ≤ left) (h1 : left ≤ 1048576) :
    Calls Tryz.prog 30 #[.slice a ts.length c, .int .i64 left] w fun e w' => e = .returned (.int .i64 (purse left (Df.bulks ts))) ∧ Below w.heap.size w w' := by
  obtain ⟨_, _, e, h2, h3, h4⟩ := hr.eDf
  simp only [Value.slice.injEq, true_and] at e
  obtain ⟨rfl, rfl⟩ := e
  have hl := Df.bulks_length ts
  skip
  have H4 := hid h4
  clear hr h4 
  by_cases hs : left < ts.length
  · rw [purse_no (by omega)]
    go_enter Tryz.func30, Tryz.ntmps30
    go_wp2_with fail
    go_ret
    exact ⟨rfl, Below.refl _ _⟩
  · have hd0 : decide (left - (ts.length : Int) < 0) = false := by simp; omega
    go_enter Tryz.func30, Tryz.ntmps30
    go_wp2_with fail
    go_loopw [1, 5] (fun l i wr => ∃ (j : Nat) (L : Int), j ≤ ts.length ∧ i = .int .i64 j ∧ l = .int .i64 L ∧ Hid (L + (Df.bulks (ts.take j) + ts.length : Nat) = left + j) ∧ 0 ≤ L ∧ L ≤ 1048576 ∧ Below w.heap.size w wr) (fun _ i _ => ts.length - (intOf i).toNat)
    case atStart => exact ⟨0, left - ts.length, by omega, rfl, rfl, by show _ = _; simp [Df.bulks], by omega, by omega, Below.refl _ _⟩
    case round =>
      obtain ⟨j, L, hj, rfl, rfl, HL, hL0, hL1, hb⟩ := hrel
      by_cases hlt : j < ts.length
      · obtain ⟨b, o, rfl, hbl, hall⟩ := H4.out (by omega)
        obtain ⟨t, ht⟩ : ∃ t, ts[j]? = some t := ⟨_, List.getElem?_eq_getElem hlt⟩
        obtain ⟨n1, ⟨tk1, tn1, tks1⟩, ⟨bk1, bu1, bn1, ⟨btk1, btn1, btks1⟩, bns1, bks1⟩⟩ := t
        obtain ⟨atks1, ctks1, abtks1, cbtks1, abns1, cbns1, abks1, cbks1, q0, q1, q2, q3, q4, q5, q6, q7, q8, q9, q10, q11, hrk⟩ := hall j n1 tk1 tn1 tks1 bk1 bu1 bn1 btk1 btn1 btks1 bns1 bks1 ht
        clear hall H4
        have d0 := (hb.cell (p := ⟨b, o + j * 12, none⟩) hbl).trans q0
        have d1 := (hb.cell (p := ⟨b, o + j * 12 + 1, none⟩) hbl).trans q1
        have d2 := (hb.cell (p := ⟨b, o + j * 12 + 2, none⟩) hbl).trans q2
        have d3 := (hb.cell (p := ⟨b, o + j * 12 + 3, none⟩) hbl).trans q3
        have d4 := (hb.cell (p := ⟨b, o + j * 12 + 4, none⟩) hbl).trans q4
        have d5 := (hb.cell (p := ⟨b, o + j * 12 + 5, none⟩) hbl).trans q5
        have d6 := (hb.cell (p := ⟨b, o + j * 12 + 6, none⟩) hbl).trans q6
        have d7 := (hb.cell (p := ⟨b, o + j * 12 + 7, none⟩) hbl).trans q7
        have d8 := (hb.cell (p := ⟨b, o + j * 12 + 8, none⟩) hbl).trans q8
        have d9 := (hb.cell (p := ⟨b, o + j * 12 + 9, none⟩) hbl).trans q9
        have d10 := (hb.cell (p := ⟨b, o + j * 12 + 10, none⟩) hbl).trans q10
        have d11 := (hb.cell (p := ⟨b, o + j * 12 + 11, none⟩) hbl).trans q11
        have HT := hid ht
        have hc := szDf n1 tk1 tn1 tks1 bk1 bu1 bn1 btk1 btn1 btks1 bns1 bks1 atks1 ctks1 abtks1 cbtks1 abns1 cbns1 abks1 cbks1 L wr (hrk.below hb) hL0 hL1
        have hst := Df.bulks_take ts j _ ht
        have hle := Df.bulks_le ts (j + 1)
        by_cases hp : ((Df.bulk (Df.mk n1 (Ty.mk tk1 tn1 tks1) (Tm.mk bk1 bu1 bn1 (Ty.mk btk1 btn1 btks1) bns1 bks1)) : Nat) : Int) ≤ L
        · rw [purse_ok hp] at hc
          have HC := hid hc
          have HS := hid hst
          clear ht hrk q0 q1 q2 q3 q4 q5 q6 q7 q8 q9 q10 q11 hc hst
          go_wp2_with fail
          refine HC.out.mono ?_
          clear HC
          rintro e w1 ⟨rfl, hb1⟩
          go_wp2_with fail
          go_roundw
          case rel => exact ⟨j + 1, _, by omega, by go_num, rfl, by show _ = _; have := HL.out; have := HS.out; omega, by omega, by omega, hb.trans (hb1.mono hb.size)⟩
          case measure => simp [intOf]; omega
        · rw [purse_no hp] at hc
          have HC := hid hc
          have HS := hid hst
          clear ht hrk q0 q1 q2 q3 q4 q5 q6 q7 q8 q9 q10 q11 hc hst
          go_wp2_with fail
          refine HC.out.mono ?_
          clear HC
          rintro e w1 ⟨rfl, hb1⟩
          go_wp2_with fail
          go_ret
          exact ⟨ret_int (by rw [purse_no (by have := HL.out; have := HS.out; omega)]), hb.trans (hb1.mono hb.size)⟩
      · obtain rfl : j = ts.length := by omega
        rw [List.take_length] at HL
        go_wp2_with fail
        go_ret
        exact ⟨ret_int (by rw [purse_ok (by have := HL.out; omega)]; have := HL.out; omega), hb⟩

end Go.Proofs.YtikhofcjkcbpbaaGreatDoor
/- was: SzPg -/
namespace Go.Proofs.YtikhofcjkcbpbaaGreatDoor
open Go.ChangeShapes Go.WideShapes Go.ChangeAt Go.RowKit
open Go.Sort (grow)
set_option linter.unusedVariables false

abbrev SzPg : Prop := ∀ (ds : List Dat) (fs : List Df) (ads : Option Addr) (cds : Nat) (afs : Option Addr) (cfs : Nat) (left : Int) (w : World), RdS w (Pg.d (Pg.mk ds fs)) [.slice ads ds.length cds, .slice afs fs.length cfs] → 0 ≤ left → left ≤ 1048576 →
  Calls Tryz.prog 10 #[.agg #[.slice ads ds.length cds, .slice afs fs.length cfs], .int .i64 left] w fun e w' => e = .returned (.int .i64 (purse left (Pg.bulk (Pg.mk ds fs)))) ∧ Below w.heap.size w w'
theorem szPg : SzPg := by
  intro ds fs ads cds afs cfs left w hr h0 h1
  have hbk : Pg.bulk (Pg.mk ds fs) = Dat.bulks ds + Df.bulks fs := rfl
  obtain ⟨hds, hfs⟩ := hr.fPg
  have hc0 := fun (W : World) (hb : Below w.heap.size w W) => (szDats ds ads cds (left) W (hds.below hb) (by omega) (by omega))
  by_cases hp0 : ((Dat.bulks ds : Nat) : Int) ≤ left
  case neg =>
    rw [purse_no hp0] at hc0
    have HC0 := hid hc0
    have HBK := hid hbk
    have HX0 := hid ((Boxes.nil w).alloc #[.slice ads ds.length cds, .slice afs fs.length cfs] 43 (0, 0))
    have hbw0 : Below w.heap.size w (w.alloc (.cells #[.slice ads ds.length cds, .slice afs fs.length cfs] 43)) := (Below.refl _ _).alloc (Nat.le_refl _) _
    have HBW := hid hbw0
    clear hr hbk hbw0 hc0 hds hfs
    go_enter Tryz.func10, Tryz.ntmps10
    go_wp2_with fail
    refine (HC0.out _ HBW.out).mono ?_
    rintro e w1 ⟨rfl, hb1⟩
    have hbw1 := HBW.out.trans (hb1.mono (by simp))
    have hx1 := HX0.out.below hb1
    have HX1 := hid hx1
    clear hx1 hb1 HC0
    go_wp2_with fail
    go_ret
    exact ⟨ret_int (by rw [purse_no (by have := HBK.out; omega)]), hbw1⟩
  case pos =>
    rw [purse_ok hp0] at hc0
    have hc1 := fun (W : World) (hb : Below w.heap.size w W) => (szDfs fs afs cfs (left - (Dat.bulks ds : Nat)) W (hfs.below hb) (by omega) (by omega))
    by_cases hp1 : ((Df.bulks fs : Nat) : Int) ≤ left - (Dat.bulks ds : Nat)
    case neg =>
      rw [purse_no hp1] at hc1
      have HC0 := hid hc0
      have HC1 := hid hc1
      have HBK := hid hbk
      have HX0 := hid ((Boxes.nil w).alloc #[.slice ads ds.length cds, .slice afs fs.length cfs] 43 (0, 0))
      have hbw0 : Below w.heap.size w (w.alloc (.cells #[.slice ads ds.length cds, .slice afs fs.length cfs] 43)) := (Below.refl _ _).alloc (Nat.le_refl _) _
      have HBW := hid hbw0
      clear hr hbk hbw0 hc0 hc1 hds hfs
      go_enter Tryz.func10, Tryz.ntmps10
      go_wp2_with fail
      refine (HC0.out _ HBW.out).mono ?_
      rintro e w1 ⟨rfl, hb1⟩
      have hbw1 := HBW.out.trans (hb1.mono (by simp))
      have hx1 := HX0.out.below hb1
      have g1_1 := hx1.at 0 1 rfl rfl
      have HX1 := hid hx1
      clear hx1 hb1 HC0
      go_wp2_with fail
      refine (HC1.out _ hbw1).mono ?_
      rintro e w2 ⟨rfl, hb2⟩
      have hbw2 := hbw1.trans (hb2.mono hbw1.size)
      have hx2 := HX1.out.below hb2
      have HX2 := hid hx2
      clear hx2 hb2 HC1
      go_wp2_with fail
      go_ret
      exact ⟨ret_int (by rw [purse_no (by have := HBK.out; omega)]), hbw2⟩
    case pos =>
      rw [purse_ok hp1] at hc1
      have HC0 := hid hc0
      have HC1 := hid hc1
      have HBK := hid hbk
      have HX0 := hid ((Boxes.nil w).alloc #[.slice ads ds.length cds, .slice afs fs.length cfs] 43 (0, 0))
      have hbw0 : Below w.heap.size w (w.alloc (.cells #[.slice ads ds.length cds, .slice afs fs.length cfs] 43)) := (Below.refl _ _).alloc (Nat.le_refl _) _
      have HBW := hid hbw0
      clear hr hbk hbw0 hc0 hc1 hds hfs
      go_enter Tryz.func10, Tryz.ntmps10
      go_wp2_with fail
      refine (HC0.out _ HBW.out).mono ?_
      rintro e w1 ⟨rfl, hb1⟩
      have hbw1 := HBW.out.trans (hb1.mono (by simp))
      have hx1 := HX0.out.below hb1
      have g1_1 := hx1.at 0 1 rfl rfl
      have HX1 := hid hx1
      clear hx1 hb1 HC0
      go_wp2_with fail
      refine (HC1.out _ hbw1).mono ?_
      rintro e w2 ⟨rfl, hb2⟩
      have hbw2 := hbw1.trans (hb2.mono hbw1.size)
      have hx2 := HX1.out.below hb2
      have HX2 := hid hx2
      clear hx2 hb2 HC1
      go_wp2_with fail
      go_ret
      exact ⟨ret_int (by rw [purse_ok (by have := HBK.out; omega)]; have := HBK.out; omega), hbw2⟩

end Go.Proofs.YtikhofcjkcbpbaaGreatDoor
