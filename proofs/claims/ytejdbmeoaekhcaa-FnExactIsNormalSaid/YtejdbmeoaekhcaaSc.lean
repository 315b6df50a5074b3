/- Data: scalars in slices. No condition. -/
import Derived.Test.YtejdbmeoaekhcaaMem
namespace Go.Proofs.Ytejdbmeoaekhcaa
open Go.RowKit

/-- Cells are read. -/
def RdS (w : World) (d : D) (cs : List Value) : Prop := ∃ F, Rd w d cs F
/-- Cells are read, all that they lead to is the call's own. -/
def OwnS (w : World) (base : Nat) (d : D) (cs : List Value) : Prop := ∃ F, Rd w d cs F ∧ Owned w base F
/-- A slice of data is read. -/
def RdL (w : World) (ds : List D) (v : Value) : Prop := RdS w (.list ds) [v]
/-- A slice of data is the call's own. -/
def OwnL (w : World) (base : Nat) (ds : List D) (v : Value) : Prop := OwnS w base (.list ds) [v]
theorem RdS.below {w w' : World} {d : D} {cs : List Value} (h : RdS w d cs) (hb : Below w.heap.size w w') : RdS w' d cs := ⟨h.choose, h.choose_spec.below hb⟩
theorem RdL.below {w w' : World} {ds : List D} {v : Value} (h : RdL w ds v) (hb : Below w.heap.size w w') : RdL w' ds v := RdS.below h hb
theorem OwnS.rd {w : World} {base : Nat} {d : D} {cs : List Value} (h : OwnS w base d cs) : RdS w d cs := ⟨h.choose, h.choose_spec.1⟩
theorem OwnL.rd {w : World} {base : Nat} {ds : List D} {v : Value} (h : OwnL w base ds v) : RdL w ds v := OwnS.rd h
theorem OwnS.mono {w : World} {base base' : Nat} {d : D} {cs : List Value} (h : OwnS w base d cs) (hB : base' ≤ base) : OwnS w base' d cs := ⟨h.choose, h.choose_spec.1, h.choose_spec.2.mono hB⟩
theorem OwnL.mono {w : World} {base base' : Nat} {ds : List D} {v : Value} (h : OwnL w base ds v) (hB : base' ≤ base) : OwnL w base' ds v := OwnS.mono h hB
theorem OwnS.above {w w' : World} {base : Nat} {d : D} {cs : List Value} (h : OwnS w base d cs) (hk : ∀ b, base ≤ b → b < w.heap.size → w'.heap[b]? = w.heap[b]?) : OwnS w' base d cs := by
  obtain ⟨F, h1, h2⟩ := h
  have k : ∀ b ∈ F, w'.heap[b]? = w.heap[b]? := fun b hb => hk b (h2.2 b hb).1 (h2.lt b hb)
  exact ⟨F, h1.keep k, h2.keep k⟩
theorem OwnL.above {w w' : World} {base : Nat} {ds : List D} {v : Value} (h : OwnL w base ds v) (hk : ∀ b, base ≤ b → b < w.heap.size → w'.heap[b]? = w.heap[b]?) : OwnL w' base ds v := OwnS.above h hk
theorem OwnS.below {w w' : World} {base : Nat} {d : D} {cs : List Value} (h : OwnS w base d cs) (hb : Below w.heap.size w w') : OwnS w' base d cs := h.above fun b _ h' => hb.block b h'
theorem OwnL.below {w w' : World} {base : Nat} {ds : List D} {v : Value} (h : OwnL w base ds v) (hb : Below w.heap.size w w') : OwnL w' base ds v := OwnS.below h hb
theorem OwnS.setCell {w : World} {base : Nat} {d : D} {cs : List Value} (h : OwnS w base d cs) {p : Addr} (_hp : p.block < base) (u : Value) : OwnS (w.setCell p u) base d cs :=
  h.above fun b hb _ => Below.heap_setCell _ _ _ _ (by omega)
theorem OwnL.setCell {w : World} {base : Nat} {ds : List D} {v : Value} (h : OwnL w base ds v) {p : Addr} (hp : p.block < base) (u : Value) : OwnL (w.setCell p u) base ds v := OwnS.setCell h hp u
theorem OwnS.alloc {w : World} {base : Nat} {d : D} {cs : List Value} (h : OwnS w base d cs) (o : Obj) : OwnS (w.alloc o) base d cs := h.above fun _ _ hb => Below.heap_alloc _ _ _ hb
theorem OwnL.alloc {w : World} {base : Nat} {ds : List D} {v : Value} (h : OwnL w base ds v) (o : Obj) : OwnL (w.alloc o) base ds v := OwnS.alloc h o

/-- Owned parts of a struct, one behind the other. -/
inductive OwnAll (w : World) (base : Nat) : List D → List Value → List Nat → Prop
  | nil : OwnAll w base [] [] []
  | cons {d : D} {ds : List D} {c1 c2 : List Value} {F1 F2 : List Nat} : Rd w d c1 F1 → Owned w base F1 → OwnAll w base ds c2 F2 → (∀ x ∈ F1, ∀ y ∈ F2, x ≠ y) → OwnAll w base (d :: ds) (c1 ++ c2) (F1 ++ F2)
theorem OwnAll.own {w : World} {base : Nat} : ∀ {ds : List D} {cs : List Value} {F : List Nat}, OwnAll w base ds cs F → RdAll w ds cs F ∧ Owned w base F
  | _, _, _, .nil => ⟨RdAll.nil, Owned.nil _ _⟩
  | _, _, _, .cons h1 h2 h3 h4 => by
    obtain ⟨k1, k2⟩ := h3.own
    refine ⟨RdAll.cons h1 k1, List.nodup_append.2 ⟨h2.1, k2.1, h4⟩, fun b hb => ?_⟩
    rcases List.mem_append.1 hb with hb | hb
    · exact h2.2 b hb
    · exact k2.2 b hb

/-! ### Parts of a struct that the call makes -/
/-- From block B on, what was there is as it was. -/
def Keeps (B : Nat) (w w' : World) : Prop := w.heap.size ≤ w'.heap.size ∧ ∀ b, B ≤ b → b < w.heap.size → w'.heap[b]? = w.heap[b]?
theorem Keeps.refl (B : Nat) (w : World) : Keeps B w w := ⟨Nat.le_refl _, fun _ _ _ => rfl⟩
theorem Keeps.trans {B : Nat} {w w' w'' : World} (h : Keeps B w w') (h' : Keeps B w' w'') : Keeps B w w'' :=
  ⟨Nat.le_trans h.1 h'.1, fun b hb hl => (h'.2 b hb (Nat.lt_of_lt_of_le hl h.1)).trans (h.2 b hb hl)⟩
theorem Keeps.below {B : Nat} {w0 w w' : World} (h : Keeps B w0 w) (hb : Below w.heap.size w w') : Keeps B w0 w' := h.trans ⟨hb.size, fun b _ hl => hb.block b hl⟩
theorem Keeps.setCell {B : Nat} {w0 w : World} (h : Keeps B w0 w) {p : Addr} (_hp : p.block < B) (u : Value) : Keeps B w0 (w.setCell p u) :=
  h.trans ⟨by simp [World.setCell], fun b hb _ => Below.heap_setCell _ _ _ _ (by omega)⟩
theorem Keeps.alloc {B : Nat} {w0 w : World} (h : Keeps B w0 w) (o : Obj) : Keeps B w0 (w.alloc o) := h.trans ⟨by simp, fun _ _ hl => Below.heap_alloc _ _ _ hl⟩
/-- A part, in blocks from 'base' on and below 'top'. -/
def PartIn (w : World) (base top : Nat) (d : D) (cs : List Value) : Prop := ∃ F, Rd w d cs F ∧ Owned w base F ∧ ∀ b ∈ F, b < top
theorem OwnS.part {w : World} {base : Nat} {d : D} {cs : List Value} (h : OwnS w base d cs) : PartIn w base w.heap.size d cs := ⟨h.choose, h.choose_spec.1, h.choose_spec.2, h.choose_spec.2.lt⟩
theorem PartIn.keeps {B base top : Nat} {w w' : World} {d : D} {cs : List Value} (h : PartIn w base top d cs) (hk : Keeps B w w') (hB : B ≤ base) (ht : top ≤ w.heap.size) : PartIn w' base top d cs := by
  obtain ⟨F, h1, h2, h3⟩ := h
  have k : ∀ b ∈ F, w'.heap[b]? = w.heap[b]? := fun b hb => hk.2 b (Nat.le_trans hB (h2.2 b hb).1) (Nat.lt_of_lt_of_le (h3 b hb) ht)
  exact ⟨F, h1.keep k, h2.keep k, h3⟩
/-- Parts, one behind the other. -/
def PartAll (w : World) (base top : Nat) (ds : List D) (cs : List Value) : Prop := ∃ F, RdAll w ds cs F ∧ Owned w base F ∧ ∀ b ∈ F, b < top
theorem PartAll.nil (w : World) (base top : Nat) : PartAll w base top [] [] := ⟨[], RdAll.nil, Owned.nil _ _, fun b hb => by simp at hb⟩
theorem PartAll.plain {w : World} {base top : Nat} {ds : List D} {cs : List Value} (h : PartAll w base top ds cs) {d : D} {c : List Value} (hd : Rd w d c []) : PartAll w base top (d :: ds) (c ++ cs) := by
  obtain ⟨F, h1, h2, h3⟩ := h
  exact ⟨F, by simpa using RdAll.cons hd h1, h2, h3⟩
theorem PartAll.cons {w : World} {b1 t1 b2 t2 : Nat} {d : D} {c : List Value} {ds : List D} {cs : List Value} (h : PartIn w b1 t1 d c) (hs : PartAll w b2 t2 ds cs) (h12 : t1 ≤ b2) (hb : b1 ≤ b2) (ht : t1 ≤ t2) : PartAll w b1 t2 (d :: ds) (c ++ cs) := by
  obtain ⟨F, f1, f2, f3⟩ := h
  obtain ⟨G, g1, g2, g3⟩ := hs
  refine ⟨F ++ G, RdAll.cons f1 g1, ⟨List.nodup_append.2 ⟨f2.1, g2.1, fun x hx y hy => ?_⟩, fun b hb' => ?_⟩, fun b hb' => ?_⟩
  · have := f3 x hx; have := (g2.2 y hy).1; omega
  · rcases List.mem_append.1 hb' with h | h
    · exact f2.2 b h
    · exact ⟨Nat.le_trans hb (g2.2 b h).1, (g2.2 b h).2⟩
  · rcases List.mem_append.1 hb' with h | h
    · exact Nat.lt_of_lt_of_le (f3 b h) ht
    · exact g3 b h
theorem PartAll.own {w : World} {base top : Nat} {ds : List D} {cs : List Value} (h : PartAll w base top ds cs) : OwnS w base (.struct ds) cs := by
  obtain ⟨F, f1, f2, _⟩ := h
  exact ⟨F, Rd.struct_mk f1, f2⟩

/-- What is left of a purse. -/
def purse (left : Int) (n : Nat) : Int := if (n : Int) ≤ left then left - n else -1
theorem purse_ok {left : Int} {n : Nat} (h : (n : Int) ≤ left) : purse left n = left - n := by unfold purse; rw [if_pos h]
theorem purse_no {left : Int} {n : Nat} (h : ¬ (n : Int) ≤ left) : purse left n = -1 := by unfold purse; rw [if_neg h]

def In.d (x : Int) : D := .int x
def In.ds : List Int → List D
  | [] => []
  | t :: ts => In.d t :: In.ds ts
def In.bulk (_x : Int) : Nat := 0
def In.bulks : List Int → Nat
  | [] => 0
  | t :: ts => 1 + In.bulk t + In.bulks ts
theorem In.d_len (t : Int) : (In.d t).len = 1 := by simp [In.d, D.len]
theorem In.ds_length : ∀ ts : List Int, (In.ds ts).length = ts.length
  | [] => rfl
  | t :: ts => by simp [In.ds, In.ds_length ts]
theorem In.ds_get : ∀ (ts : List Int) (i : Nat), (In.ds ts)[i]? = (ts[i]?).map In.d
  | [], i => by simp [In.ds]
  | t :: ts, 0 => by simp [In.ds]
  | t :: ts, i + 1 => by simp [In.ds, In.ds_get ts i]
theorem In.ds_snoc : ∀ (ts : List Int) (i : Nat) (t : Int), ts[i]? = some t → In.ds (ts.take (i + 1)) = In.ds (ts.take i) ++ [In.d t]
  | [], i, t, h => by simp at h
  | u :: ts, 0, t, h => by simp at h; subst h; simp [In.ds]
  | u :: ts, i + 1, t, h => by have := In.ds_snoc ts i t (by simpa using h); simp [In.ds, this]
theorem In.ds_append : ∀ (ts us : List Int), In.ds (ts ++ us) = In.ds ts ++ In.ds us
  | [], us => rfl
  | t :: ts, us => by simp [In.ds, In.ds_append ts us]
theorem In.ds_len : ∀ (ts : List Int), ∀ d ∈ In.ds ts, d.len = 1
  | [], d, h => by simp [In.ds] at h
  | t :: ts, d, h => by
    simp only [In.ds, List.mem_cons] at h
    rcases h with rfl | h
    · exact In.d_len t
    · exact In.ds_len ts d h
theorem In.bulks_length : ∀ ts : List Int, ts.length ≤ In.bulks ts
  | [] => by simp
  | t :: ts => by have := In.bulks_length ts; simp [In.bulks]; omega
theorem In.bulk_get : ∀ (ts : List Int) (i : Nat) (t : Int), ts[i]? = some t → In.bulk t < In.bulks ts
  | [], i, t, h => by simp at h
  | u :: ts, 0, t, h => by simp at h; subst h; simp [In.bulks]; omega
  | u :: ts, i + 1, t, h => by have := In.bulk_get ts i t (by simpa using h); simp [In.bulks]; omega
theorem In.bulks_take : ∀ (ts : List Int) (i : Nat) (t : Int), ts[i]? = some t → In.bulks (ts.take (i + 1)) = In.bulks (ts.take i) + 1 + In.bulk t
  | [], i, t, h => by simp at h
  | u :: ts, 0, t, h => by simp at h; subst h; simp [In.bulks]
  | u :: ts, i + 1, t, h => by have := In.bulks_take ts i t (by simpa using h); simp [In.bulks] at *; omega
theorem In.bulks_le : ∀ (ts : List Int) (i : Nat), In.bulks (ts.take i) + (ts.length - i) ≤ In.bulks ts
  | [], i => by simp
  | u :: ts, 0 => by have := In.bulks_length ts; simp [In.bulks]; omega
  | u :: ts, i + 1 => by have := In.bulks_le ts i; simp [In.bulks]; omega
theorem RdL.eIn {w : World} {ts : List Int} {v : Value} (h : RdL w (In.ds ts) v) : ∃ (a : Option Addr) (cap : Nat), v = .slice a ts.length cap ∧ ts.length ≤ cap ∧ cap ≤ 9223372036854775807 ∧
    (0 < ts.length → ∃ b o, a = some ⟨b, o, none⟩ ∧ b < w.heap.size ∧ ∀ (i : Nat) (x : Int), ts[i]? = some x → w.cell? ⟨b, o + i, none⟩ = some (.int .i64 x) ∧ (-9223372036854775808 ≤ x ∧ x ≤ 9223372036854775807)) := by
  obtain ⟨F, h⟩ := h
  obtain ⟨a, cap, h1, h2, h3, h4⟩ := h.list_inv
  rw [In.ds_length] at h1 h2
  simp only [List.cons.injEq, and_true] at h1
  refine ⟨a, cap, h1, h2, h3, fun hp => ?_⟩
  rcases h4 with ⟨h4, _⟩ | ⟨b, o, xs, F', _, rfl, rfl, hb, hx, hr⟩
  · have := congrArg List.length h4; rw [In.ds_length] at this; simp at this; simp [this] at hp
  · refine ⟨b, o, rfl, hb, fun i x hi => ?_⟩
    obtain ⟨cs, Fi, k1, k2, _⟩ := hr.get (In.ds_len ts) (i := i) (d := In.d x) (by rw [In.ds_get, hi]; rfl)
    obtain ⟨rfl, rfl, n1, n2⟩ := k2.int_inv
    have := hx _ _ (k1 0 (.int .i64 x) rfl)
    exact ⟨by simpa using this, n1, n2⟩

def Sr.d (x : ByteArray) : D := .str x
def Sr.ds : List ByteArray → List D
  | [] => []
  | t :: ts => Sr.d t :: Sr.ds ts
def Sr.bulk (x : ByteArray) : Nat := x.size
def Sr.bulks : List ByteArray → Nat
  | [] => 0
  | t :: ts => 1 + Sr.bulk t + Sr.bulks ts
theorem Sr.d_len (t : ByteArray) : (Sr.d t).len = 1 := by simp [Sr.d, D.len]
theorem Sr.ds_length : ∀ ts : List ByteArray, (Sr.ds ts).length = ts.length
  | [] => rfl
  | t :: ts => by simp [Sr.ds, Sr.ds_length ts]
theorem Sr.ds_get : ∀ (ts : List ByteArray) (i : Nat), (Sr.ds ts)[i]? = (ts[i]?).map Sr.d
  | [], i => by simp [Sr.ds]
  | t :: ts, 0 => by simp [Sr.ds]
  | t :: ts, i + 1 => by simp [Sr.ds, Sr.ds_get ts i]
theorem Sr.ds_snoc : ∀ (ts : List ByteArray) (i : Nat) (t : ByteArray), ts[i]? = some t → Sr.ds (ts.take (i + 1)) = Sr.ds (ts.take i) ++ [Sr.d t]
  | [], i, t, h => by simp at h
  | u :: ts, 0, t, h => by simp at h; subst h; simp [Sr.ds]
  | u :: ts, i + 1, t, h => by have := Sr.ds_snoc ts i t (by simpa using h); simp [Sr.ds, this]
theorem Sr.ds_append : ∀ (ts us : List ByteArray), Sr.ds (ts ++ us) = Sr.ds ts ++ Sr.ds us
  | [], us => rfl
  | t :: ts, us => by simp [Sr.ds, Sr.ds_append ts us]
theorem Sr.ds_len : ∀ (ts : List ByteArray), ∀ d ∈ Sr.ds ts, d.len = 1
  | [], d, h => by simp [Sr.ds] at h
  | t :: ts, d, h => by
    simp only [Sr.ds, List.mem_cons] at h
    rcases h with rfl | h
    · exact Sr.d_len t
    · exact Sr.ds_len ts d h
theorem Sr.bulks_length : ∀ ts : List ByteArray, ts.length ≤ Sr.bulks ts
  | [] => by simp
  | t :: ts => by have := Sr.bulks_length ts; simp [Sr.bulks]; omega
theorem Sr.bulk_get : ∀ (ts : List ByteArray) (i : Nat) (t : ByteArray), ts[i]? = some t → Sr.bulk t < Sr.bulks ts
  | [], i, t, h => by simp at h
  | u :: ts, 0, t, h => by simp at h; subst h; simp [Sr.bulks]; omega
  | u :: ts, i + 1, t, h => by have := Sr.bulk_get ts i t (by simpa using h); simp [Sr.bulks]; omega
theorem Sr.bulks_take : ∀ (ts : List ByteArray) (i : Nat) (t : ByteArray), ts[i]? = some t → Sr.bulks (ts.take (i + 1)) = Sr.bulks (ts.take i) + 1 + Sr.bulk t
  | [], i, t, h => by simp at h
  | u :: ts, 0, t, h => by simp at h; subst h; simp [Sr.bulks]
  | u :: ts, i + 1, t, h => by have := Sr.bulks_take ts i t (by simpa using h); simp [Sr.bulks] at *; omega
theorem Sr.bulks_le : ∀ (ts : List ByteArray) (i : Nat), Sr.bulks (ts.take i) + (ts.length - i) ≤ Sr.bulks ts
  | [], i => by simp
  | u :: ts, 0 => by have := Sr.bulks_length ts; simp [Sr.bulks]; omega
  | u :: ts, i + 1 => by have := Sr.bulks_le ts i; simp [Sr.bulks]; omega
theorem RdL.eSr {w : World} {ts : List ByteArray} {v : Value} (h : RdL w (Sr.ds ts) v) : ∃ (a : Option Addr) (cap : Nat), v = .slice a ts.length cap ∧ ts.length ≤ cap ∧ cap ≤ 9223372036854775807 ∧
    (0 < ts.length → ∃ b o, a = some ⟨b, o, none⟩ ∧ b < w.heap.size ∧ ∀ (i : Nat) (x : ByteArray), ts[i]? = some x → w.cell? ⟨b, o + i, none⟩ = some (.string x) ∧ (x.size ≤ 9223372036854775807)) := by
  obtain ⟨F, h⟩ := h
  obtain ⟨a, cap, h1, h2, h3, h4⟩ := h.list_inv
  rw [Sr.ds_length] at h1 h2
  simp only [List.cons.injEq, and_true] at h1
  refine ⟨a, cap, h1, h2, h3, fun hp => ?_⟩
  rcases h4 with ⟨h4, _⟩ | ⟨b, o, xs, F', _, rfl, rfl, hb, hx, hr⟩
  · have := congrArg List.length h4; rw [Sr.ds_length] at this; simp at this; simp [this] at hp
  · refine ⟨b, o, rfl, hb, fun i x hi => ?_⟩
    obtain ⟨cs, Fi, k1, k2, _⟩ := hr.get (Sr.ds_len ts) (i := i) (d := Sr.d x) (by rw [Sr.ds_get, hi]; rfl)
    obtain ⟨rfl, rfl, n1⟩ := k2.str_inv
    have := hx _ _ (k1 0 (.string x) rfl)
    exact ⟨by simpa using this, n1⟩

def Bo.d (x : Bool) : D := .bool x
def Bo.ds : List Bool → List D
  | [] => []
  | t :: ts => Bo.d t :: Bo.ds ts
def Bo.bulk (_x : Bool) : Nat := 0
def Bo.bulks : List Bool → Nat
  | [] => 0
  | t :: ts => 1 + Bo.bulk t + Bo.bulks ts
theorem Bo.d_len (t : Bool) : (Bo.d t).len = 1 := by simp [Bo.d, D.len]
theorem Bo.ds_length : ∀ ts : List Bool, (Bo.ds ts).length = ts.length
  | [] => rfl
  | t :: ts => by simp [Bo.ds, Bo.ds_length ts]
theorem Bo.ds_get : ∀ (ts : List Bool) (i : Nat), (Bo.ds ts)[i]? = (ts[i]?).map Bo.d
  | [], i => by simp [Bo.ds]
  | t :: ts, 0 => by simp [Bo.ds]
  | t :: ts, i + 1 => by simp [Bo.ds, Bo.ds_get ts i]
theorem Bo.ds_snoc : ∀ (ts : List Bool) (i : Nat) (t : Bool), ts[i]? = some t → Bo.ds (ts.take (i + 1)) = Bo.ds (ts.take i) ++ [Bo.d t]
  | [], i, t, h => by simp at h
  | u :: ts, 0, t, h => by simp at h; subst h; simp [Bo.ds]
  | u :: ts, i + 1, t, h => by have := Bo.ds_snoc ts i t (by simpa using h); simp [Bo.ds, this]
theorem Bo.ds_append : ∀ (ts us : List Bool), Bo.ds (ts ++ us) = Bo.ds ts ++ Bo.ds us
  | [], us => rfl
  | t :: ts, us => by simp [Bo.ds, Bo.ds_append ts us]
theorem Bo.ds_len : ∀ (ts : List Bool), ∀ d ∈ Bo.ds ts, d.len = 1
  | [], d, h => by simp [Bo.ds] at h
  | t :: ts, d, h => by
    simp only [Bo.ds, List.mem_cons] at h
    rcases h with rfl | h
    · exact Bo.d_len t
    · exact Bo.ds_len ts d h
theorem Bo.bulks_length : ∀ ts : List Bool, ts.length ≤ Bo.bulks ts
  | [] => by simp
  | t :: ts => by have := Bo.bulks_length ts; simp [Bo.bulks]; omega
theorem Bo.bulk_get : ∀ (ts : List Bool) (i : Nat) (t : Bool), ts[i]? = some t → Bo.bulk t < Bo.bulks ts
  | [], i, t, h => by simp at h
  | u :: ts, 0, t, h => by simp at h; subst h; simp [Bo.bulks]; omega
  | u :: ts, i + 1, t, h => by have := Bo.bulk_get ts i t (by simpa using h); simp [Bo.bulks]; omega
theorem Bo.bulks_take : ∀ (ts : List Bool) (i : Nat) (t : Bool), ts[i]? = some t → Bo.bulks (ts.take (i + 1)) = Bo.bulks (ts.take i) + 1 + Bo.bulk t
  | [], i, t, h => by simp at h
  | u :: ts, 0, t, h => by simp at h; subst h; simp [Bo.bulks]
  | u :: ts, i + 1, t, h => by have := Bo.bulks_take ts i t (by simpa using h); simp [Bo.bulks] at *; omega
theorem Bo.bulks_le : ∀ (ts : List Bool) (i : Nat), Bo.bulks (ts.take i) + (ts.length - i) ≤ Bo.bulks ts
  | [], i => by simp
  | u :: ts, 0 => by have := Bo.bulks_length ts; simp [Bo.bulks]; omega
  | u :: ts, i + 1 => by have := Bo.bulks_le ts i; simp [Bo.bulks]; omega
theorem RdL.eBo {w : World} {ts : List Bool} {v : Value} (h : RdL w (Bo.ds ts) v) : ∃ (a : Option Addr) (cap : Nat), v = .slice a ts.length cap ∧ ts.length ≤ cap ∧ cap ≤ 9223372036854775807 ∧
    (0 < ts.length → ∃ b o, a = some ⟨b, o, none⟩ ∧ b < w.heap.size ∧ ∀ (i : Nat) (x : Bool), ts[i]? = some x → w.cell? ⟨b, o + i, none⟩ = some (.bool x) ∧ (True)) := by
  obtain ⟨F, h⟩ := h
  obtain ⟨a, cap, h1, h2, h3, h4⟩ := h.list_inv
  rw [Bo.ds_length] at h1 h2
  simp only [List.cons.injEq, and_true] at h1
  refine ⟨a, cap, h1, h2, h3, fun hp => ?_⟩
  rcases h4 with ⟨h4, _⟩ | ⟨b, o, xs, F', _, rfl, rfl, hb, hx, hr⟩
  · have := congrArg List.length h4; rw [Bo.ds_length] at this; simp at this; simp [this] at hp
  · refine ⟨b, o, rfl, hb, fun i x hi => ?_⟩
    obtain ⟨cs, Fi, k1, k2, _⟩ := hr.get (Bo.ds_len ts) (i := i) (d := Bo.d x) (by rw [Bo.ds_get, hi]; rfl)
    obtain ⟨rfl, rfl⟩ := k2.bool_inv
    have := hx _ _ (k1 0 (.bool x) rfl)
    exact ⟨by simpa using this, trivial⟩
end Go.Proofs.Ytejdbmeoaekhcaa
