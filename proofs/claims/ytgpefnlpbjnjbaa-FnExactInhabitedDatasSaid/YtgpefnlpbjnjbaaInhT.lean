/- Walks: whether a type is inhabited, in both. No condition. -/
import Derived.Test.YtgpefnlpbjnjbaaInhP
import Derived.Test.YtgpefnlpbjnjbaaDatKnown
import Derived.Test.YtgpefnlpbjnjbaaDatImpl
import Derived.Test.YtgpefnlpbjnjbaaKeep
import Derived.Laws.OwnMore
import Derived.Lib.QuietBelow
namespace Go.Proofs.Ytgpefnlpbjnjbaa
open Go.ChangeShapes Go.WideShapes Go.ChangeAt Go.RowKit
open Go.Sort (grow)
set_option linter.unusedVariables false

/-- A list of truth values lies in a slice. -/
def BoolsL (w : World) (lv : List Bool) (v : Value) : Prop := ∃ (a : Option Addr) (c : Nat), v = .slice a lv.length c ∧ lv.length ≤ c ∧ c ≤ 9223372036854775807 ∧ (0 < lv.length → ∃ b o, a = some ⟨b, o, none⟩ ∧ b < w.heap.size ∧ ∀ (i : Nat) (s : Bool), lv[i]? = some s → w.cell? ⟨b, o + i, none⟩ = some (.bool s))
theorem BoolsL.below {w w' : World} {lv : List Bool} {v : Value} (h : BoolsL w lv v) (hb : Below w.heap.size w w') : BoolsL w' lv v := by
  obtain ⟨a, c, e, h2, h3, h4⟩ := h
  refine ⟨a, c, e, h2, h3, fun hp => ?_⟩
  obtain ⟨b, o, e, hl, hc⟩ := h4 hp
  exact ⟨b, o, e, Nat.lt_of_lt_of_le hl hb.size, fun i s hi => (hb.cell (p := ⟨b, o + i, none⟩) hl).trans (hc i s hi)⟩
/-- The call's own list of truth values: its block. -/
def LiveAt (g : Nat) (lv : List Bool) (w : World) : Prop := w.heap[g]? = some (.cells (lv.map Value.bool).toArray 4 (0, 0))
theorem LiveAt.bools {g n : Nat} {lv : List Bool} {w : World} (h : LiveAt g lv w) (hn : lv.length = n) (hs : n ≤ 1048576) : BoolsL w lv (.slice (some ⟨g, 0, none⟩) n n) := by
  subst hn
  refine ⟨_, _, rfl, Nat.le_refl _, by omega, fun _ => ⟨g, 0, rfl, (Array.getElem?_eq_some_iff.1 h).1, fun i s hi => ?_⟩⟩
  unfold LiveAt at h
  simp only [World.cell?, h]
  simp [hi]
theorem LiveAt.below {g : Nat} {lv : List Bool} {w w' : World} (h : LiveAt g lv w) (hb : Below w.heap.size w w') : LiveAt g lv w' := (hb.block _ (Array.getElem?_eq_some_iff.1 h).1).trans h
theorem LiveAt.set {g i : Nat} {lv : List Bool} {w : World} (h : LiveAt g lv w) : LiveAt g (lv.set i true) (w.setCell ⟨g, i, none⟩ (.bool true)) := by
  have := heap_setCell_at w g i (.bool true) h
  unfold LiveAt
  rw [this]
  simp [List.map_set]
theorem LiveAt.made (w : World) (n : Nat) : LiveAt w.heap.size (List.replicate n false) (w.alloc (.cells (madeCells #[.bool false] n) 4)) := by
  have h : (w.alloc (.cells (madeCells #[.bool false] n) 4)).heap[w.heap.size]? = some (.cells (madeCells #[.bool false] n) 4) := heap_alloc_new w _
  unfold LiveAt
  rw [h]
  have e : madeCells #[.bool false] n = ((List.replicate n false).map Value.bool).toArray := by
    apply Array.ext'
    rw [toList_madeCells_one]; simp
  rw [e]
theorem LiveAt.ne {g i x : Nat} {w : World} {v : Value} (h : x ≠ g) : (w.setCell ⟨g, i, none⟩ v).heap[x]? = w.heap[x]? := Below.heap_setCell w ⟨g, i, none⟩ v x h
theorem LiveAt.free {g : Nat} {lv : List Bool} {w : World} (h : LiveAt g lv w) (i : Nat) : w.frozen? ⟨g, i, none⟩ = false := by unfold LiveAt at h; simp [World.frozen?, h]
theorem LiveAt.cell {g i : Nat} {lv : List Bool} {w : World} {x : Bool} (h : LiveAt g lv w) (hi : lv[i]? = some x) : w.cell? ⟨g, i, none⟩ = some (.bool x) := by
  unfold LiveAt at h
  simp only [World.cell?, h]
  simp [hi]
theorem infoBoL : (Try.prog.info? 4).map (fun i => (i.zero, i.size, i.bytes)) = some (some (.bool false), 1, 1) := by kernel_rfl
theorem makeBoL (n : Nat) (hn : n ≤ 1048576) (w : World) : (Instr.makeSlice 38 (.int .i64 (n : Int)) (.int .i64 (n : Int))).run Try.prog w = .ok (.slice (some ⟨w.heap.size, 0, none⟩) n n) (w.alloc (.cells (madeCells #[.bool false] n) 4)) := by
  obtain ⟨i, hi, hz, hs, hb⟩ := info_parts infoBoL
  have := run_make (P := Try.prog) w 38 4 i _ Try.underlying38 hi hz .i64 .i64 n n (by omega) (Int.le_refl _) (by rw [hb]; omega) (by omega)
  simp only [Int.toNat_natCast, hs, Nat.mul_one] at this
  exact this
theorem Ty.good_bang4 {n : ByteArray} {ks : List Ty} (h : Ty.good (.mk 4 n ks) = true) : ∃ x, ks = [x] ∧ Ty.good x = true := by
  simp only [Ty.good, Bool.and_eq_true, okNode] at h
  have hl : ks.length = 1 := by have := h.2; simp at this; exact this.2
  match ks, hl with
  | [x], _ => exact ⟨x, rfl, by have := h.1; simpa [Ty.goods] using this⟩
def LvWS (ts : List Dat) (a : Option Addr) (c : Nat) (lv : List Bool) (vl : Value) (N : Nat) : Prop := ∀ (k1 : Int) (n1 : ByteArray) (ks1 : List Ty) (aks1 : Option Addr) (cks1 : Nat) (w : World), Ty.bulk (Ty.mk k1 n1 ks1) < N → fieldFit ts (Ty.mk k1 n1 ks1) → RdL w (Dat.ds ts) (.slice a ts.length c) → BoolsL w lv vl → RdS w (Ty.d (Ty.mk k1 n1 ks1)) [.int .i64 k1, .string n1, .slice aks1 ks1.length cks1] →
  Calls Try.prog 111 #[.slice a ts.length c, vl, .agg #[.int .i64 k1, .string n1, .slice aks1 ks1.length cks1]] w fun e w' => e = .returned (.bool (Ty.lives ts lv (Ty.mk k1 n1 ks1))) ∧ Below w.heap.size w w'
set_option maxRecDepth 100000 in
set_option maxHeartbeats 2000000 in
theorem lives_stepS (ts : List Dat) (a : Option Addr) (c : Nat) (lv : List Bool) (vl : Value) (hlen : lv.length = ts.length) (N : Nat) (ih : LvWS ts a c lv vl N) : LvWS ts a c lv vl (N + 1) := by
  intro k1 n1 ks1 aks1 cks1 w hN hf hd hl hr
  have HLEN := hid hlen
  clear hlen
  have hB := (Below.refl w.heap.size w).alloc (Nat.le_refl _) (.cells #[.int .i64 k1, .string n1, .slice aks1 ks1.length cks1] 28)
  have hx := heap_alloc_new w (.cells #[.int .i64 k1, .string n1, .slice aks1 ks1.length cks1] 28)
  have HB := hid hB
  have HX := hid hx
  have HD := hid hd
  have e0 := heap_cell hx (j := 0) rfl
  have e1 := heap_cell hx (j := 1) rfl
  have e2 := heap_cell hx (j := 2) rfl
  clear hx
  by_cases h2 : k1 = 2
  case pos =>
    subst h2
    have hkn : 0 ≤ named ts n1 := by have h := hf.2; rw [Ty.known, if_pos rfl, Ty.knows] at h; exact of_decide_eq_true h
    have hlt := fstAt_lt (datIs n1) ts
    obtain ⟨m, hm⟩ : ∃ m : Nat, named ts n1 = (m : Int) := ⟨(named ts n1).toNat, by omega⟩
    have hm' : m < lv.length := by have h : named ts n1 < ts.length := hlt; have := HLEN.out; omega
    have HE := hid (show Ty.lives ts lv (Ty.mk 2 n1 ks1) = lv[m]'hm' by rw [Ty.lives_data, hm, blAt]; simp [hm'])
    have hc := spec_Named ts a c n1 _ (hd.below hB)
    rw [hm] at hc
    have HC := hid hc
    obtain ⟨ab, cb, rfl, hlc, hcm, hall⟩ := hl.below hB
    obtain ⟨b, o, rfl, hbl, hcell⟩ := hall (by omega)
    have q0 := hcell m _ (List.getElem?_eq_getElem hm')
    generalize lv[m]'hm' = r at HE q0
    have HQ := hid q0
    have HBL := hid hbl
    clear hc hkn hlt hm hall hcell hB hd hf hr ih hN q0
    go_enter Try.func111, Try.ntmps111
    go_wp2_with fail
    refine HC.out.mono ?_
    rintro e w1 ⟨rfl, rfl⟩
    have q1 := HQ.out
    go_wp2_with fail
    go_ret
    exact ⟨ret_bool HE.out.symm, HB.out⟩
  case neg =>
  have g2 : (k1 == 2) = false := by simp [h2]
  by_cases h4 : k1 = 4
  case pos =>
    subst h4
    obtain ⟨x, rfl, hgx⟩ := Ty.good_bang4 hf.1
    obtain ⟨k3, n3, ks3⟩ := x
    have hkx : Ty.known ts (Ty.mk k3 n3 ks3) = true := by have h := hf.2; rw [Ty.known, if_neg h2, Ty.knowns, Bool.and_eq_true] at h; exact h.1
    have HE := hid (Ty.lives_bang ts lv n1 (Ty.mk k3 n3 ks3))
    obtain ⟨_, _, hks⟩ := hr.fTy
    obtain ⟨_, _, e, h2', h3', h4'⟩ := hks.eTy
    simp only [Value.slice.injEq, true_and] at e
    obtain ⟨rfl, rfl⟩ := e
    obtain ⟨b, o, rfl, hbl, hall⟩ := h4' (by simp)
    obtain ⟨aks3, cks3, q0, q1, q2, hrk⟩ := hall 0 k3 n3 ks3 rfl
    clear hB HB e0 e1 e2 HX
    have hB := (Below.refl w.heap.size w).alloc (Nat.le_refl _) (.cells #[.int .i64 4, .string n1, .slice (some ⟨b, o, none⟩) 1 cks1] 28)
    have hx := heap_alloc_new w (.cells #[.int .i64 4, .string n1, .slice (some ⟨b, o, none⟩) 1 cks1] 28)
    have HB := hid hB
    have e0 := heap_cell hx (j := 0) rfl
    have e1 := heap_cell hx (j := 1) rfl
    have e2 := heap_cell hx (j := 2) rfl
    clear hx
    have d0 := (hB.cell (p := ⟨b, o + 0 * 3, none⟩) hbl).trans q0
    have d1 := (hB.cell (p := ⟨b, o + 0 * 3 + 1, none⟩) hbl).trans q1
    have d2 := (hB.cell (p := ⟨b, o + 0 * 3 + 2, none⟩) hbl).trans q2
    simp only [Nat.zero_mul, Nat.add_zero] at d0 d1 d2
    have hic := ih k3 n3 ks3 aks3 cks3 _ (by simp [Ty.bulk, Ty.bulks] at hN; simp only [Ty.bulk]; omega) ⟨hgx, hkx⟩ (hd.below hB) (hl.below hB) (hrk.below hB)
    generalize Ty.lives ts lv (Ty.mk k3 n3 ks3) = r at HE hic
    have HIC := hid hic
    obtain ⟨ab, cb, rfl, -⟩ := hl
    show Calls Try.prog 111 #[.slice a ts.length c, _, .agg #[.int .i64 4, .string n1, .slice (some ⟨b, o, none⟩) 1 cks1]] w _
    clear hic hks h2 h2' h3' h4' hall q0 q1 q2 hrk hgx hkx hd hf hr ih hN hB
    go_enter Try.func111, Try.ntmps111
    go_wp2_with fail
    refine HIC.out.mono ?_
    rintro e w1 ⟨rfl, hb⟩
    have HB1 := hid (HB.out.trans (hb.mono HB.out.size))
    clear hb
    go_wp2_with fail
    go_ret
    exact ⟨ret_bool HE.out.symm, HB1.out⟩
  case neg =>
    have g4 : (k1 == 4) = false := by simp [h4]
    have HE := hid (Ty.lives_mk ts lv h2 h4 n1 ks1)
    obtain ⟨ab, cb, rfl, -⟩ := hl
    clear h2 h4 hd hf hr ih hN hB
    go_enter Try.func111, Try.ntmps111
    go_wp2_with fail
    go_ret
    exact ⟨ret_bool HE.out.symm, HB.out⟩
theorem lives_allS (ts : List Dat) (a : Option Addr) (c : Nat) (lv : List Bool) (vl : Value) (hlen : lv.length = ts.length) : ∀ N, LvWS ts a c lv vl N
  | 0 => fun _ _ _ _ _ _ h => absurd h (by omega)
  | N + 1 => lives_stepS ts a c lv vl hlen N (lives_allS ts a c lv vl hlen N)
theorem spec_lives (ts : List Dat) (a : Option Addr) (c : Nat) (lv : List Bool) (vl : Value) (hlen : lv.length = ts.length) (k1 : Int) (n1 : ByteArray) (ks1 : List Ty) (aks1 : Option Addr) (cks1 : Nat) (w : World) (hf : fieldFit ts (Ty.mk k1 n1 ks1)) (hd : RdL w (Dat.ds ts) (.slice a ts.length c)) (hl : BoolsL w lv vl) (hr : RdS w (Ty.d (Ty.mk k1 n1 ks1)) [.int .i64 k1, .string n1, .slice aks1 ks1.length cks1]) :
    Calls Try.prog 111 #[.slice a ts.length c, vl, .agg #[.int .i64 k1, .string n1, .slice aks1 ks1.length cks1]] w fun e w' => e = .returned (.bool (Ty.lives ts lv (Ty.mk k1 n1 ks1))) ∧ Below w.heap.size w w' := lives_allS ts a c lv vl hlen (Ty.bulk (Ty.mk k1 n1 ks1) + 1) k1 n1 ks1 aks1 cks1 w (by omega) hf hd hl hr
def LvWI (ts : List Dat) (a : Option Addr) (c : Nat) (lv : List Bool) (vl : Value) (N : Nat) : Prop := ∀ (k1 : Int) (n1 : ByteArray) (ks1 : List Ty) (aks1 : Option Addr) (cks1 : Nat) (w : World), Ty.bulk (Ty.mk k1 n1 ks1) < N → fieldFit ts (Ty.mk k1 n1 ks1) → RdL w (Dat.ds ts) (.slice a ts.length c) → BoolsL w lv vl → RdS w (Ty.d (Ty.mk k1 n1 ks1)) [.int .i64 k1, .string n1, .slice aks1 ks1.length cks1] →
  Calls Try.prog 67 #[.slice a ts.length c, vl, .agg #[.int .i64 k1, .string n1, .slice aks1 ks1.length cks1]] w fun e w' => e = .returned (.bool (Ty.lives ts lv (Ty.mk k1 n1 ks1))) ∧ Below w.heap.size w w'
set_option maxRecDepth 100000 in
set_option maxHeartbeats 2000000 in
theorem lives_stepI (ts : List Dat) (a : Option Addr) (c : Nat) (lv : List Bool) (vl : Value) (hlen : lv.length = ts.length) (N : Nat) (ih : LvWI ts a c lv vl N) : LvWI ts a c lv vl (N + 1) := by
  intro k1 n1 ks1 aks1 cks1 w hN hf hd hl hr
  have HLEN := hid hlen
  clear hlen
  have hB := (Below.refl w.heap.size w).alloc (Nat.le_refl _) (.cells #[.int .i64 k1, .string n1, .slice aks1 ks1.length cks1] 28)
  have hx := heap_alloc_new w (.cells #[.int .i64 k1, .string n1, .slice aks1 ks1.length cks1] 28)
  have HB := hid hB
  have HX := hid hx
  have HD := hid hd
  have e0 := heap_cell hx (j := 0) rfl
  have e1 := heap_cell hx (j := 1) rfl
  have e2 := heap_cell hx (j := 2) rfl
  clear hx
  by_cases h2 : k1 = 2
  case pos =>
    subst h2
    have hkn : 0 ≤ named ts n1 := by have h := hf.2; rw [Ty.known, if_pos rfl, Ty.knows] at h; exact of_decide_eq_true h
    have hlt := fstAt_lt (datIs n1) ts
    obtain ⟨m, hm⟩ : ∃ m : Nat, named ts n1 = (m : Int) := ⟨(named ts n1).toNat, by omega⟩
    have hm' : m < lv.length := by have h : named ts n1 < ts.length := hlt; have := HLEN.out; omega
    have HE := hid (show Ty.lives ts lv (Ty.mk 2 n1 ks1) = lv[m]'hm' by rw [Ty.lives_data, hm, blAt]; simp [hm'])
    have hc := impl_findData ts a c n1 _ (hd.below hB)
    rw [hm] at hc
    have HC := hid hc
    obtain ⟨ab, cb, rfl, hlc, hcm, hall⟩ := hl.below hB
    obtain ⟨b, o, rfl, hbl, hcell⟩ := hall (by omega)
    have q0 := hcell m _ (List.getElem?_eq_getElem hm')
    generalize lv[m]'hm' = r at HE q0
    have HQ := hid q0
    have HBL := hid hbl
    clear hc hkn hlt hm hall hcell hB hd hf hr ih hN q0
    go_enter Try.func67, Try.ntmps67
    go_wp2_with fail
    refine HC.out.mono ?_
    rintro e w1 ⟨rfl, hb⟩
    have q1 := (hb.cell (p := ⟨b, o + m, none⟩) HBL.out).trans HQ.out
    have HB1 := hid (HB.out.trans (hb.mono HB.out.size))
    clear hb
    go_wp2_with fail
    go_ret
    exact ⟨ret_bool HE.out.symm, HB1.out⟩
  case neg =>
  have g2 : (k1 == 2) = false := by simp [h2]
  by_cases h4 : k1 = 4
  case pos =>
    subst h4
    obtain ⟨x, rfl, hgx⟩ := Ty.good_bang4 hf.1
    obtain ⟨k3, n3, ks3⟩ := x
    have hkx : Ty.known ts (Ty.mk k3 n3 ks3) = true := by have h := hf.2; rw [Ty.known, if_neg h2, Ty.knowns, Bool.and_eq_true] at h; exact h.1
    have HE := hid (Ty.lives_bang ts lv n1 (Ty.mk k3 n3 ks3))
    obtain ⟨_, _, hks⟩ := hr.fTy
    obtain ⟨_, _, e, h2', h3', h4'⟩ := hks.eTy
    simp only [Value.slice.injEq, true_and] at e
    obtain ⟨rfl, rfl⟩ := e
    obtain ⟨b, o, rfl, hbl, hall⟩ := h4' (by simp)
    obtain ⟨aks3, cks3, q0, q1, q2, hrk⟩ := hall 0 k3 n3 ks3 rfl
    clear hB HB e0 e1 e2 HX
    have hB := (Below.refl w.heap.size w).alloc (Nat.le_refl _) (.cells #[.int .i64 4, .string n1, .slice (some ⟨b, o, none⟩) 1 cks1] 28)
    have hx := heap_alloc_new w (.cells #[.int .i64 4, .string n1, .slice (some ⟨b, o, none⟩) 1 cks1] 28)
    have HB := hid hB
    have e0 := heap_cell hx (j := 0) rfl
    have e1 := heap_cell hx (j := 1) rfl
    have e2 := heap_cell hx (j := 2) rfl
    clear hx
    have d0 := (hB.cell (p := ⟨b, o + 0 * 3, none⟩) hbl).trans q0
    have d1 := (hB.cell (p := ⟨b, o + 0 * 3 + 1, none⟩) hbl).trans q1
    have d2 := (hB.cell (p := ⟨b, o + 0 * 3 + 2, none⟩) hbl).trans q2
    simp only [Nat.zero_mul, Nat.add_zero] at d0 d1 d2
    have hic := ih k3 n3 ks3 aks3 cks3 _ (by simp [Ty.bulk, Ty.bulks] at hN; simp only [Ty.bulk]; omega) ⟨hgx, hkx⟩ (hd.below hB) (hl.below hB) (hrk.below hB)
    generalize Ty.lives ts lv (Ty.mk k3 n3 ks3) = r at HE hic
    have HIC := hid hic
    obtain ⟨ab, cb, rfl, -⟩ := hl
    show Calls Try.prog 67 #[.slice a ts.length c, _, .agg #[.int .i64 4, .string n1, .slice (some ⟨b, o, none⟩) 1 cks1]] w _
    clear hic hks h2 h2' h3' h4' hall q0 q1 q2 hrk hgx hkx hd hf hr ih hN hB
    go_enter Try.func67, Try.ntmps67
    go_wp2_with fail
    refine HIC.out.mono ?_
    rintro e w1 ⟨rfl, hb⟩
    have HB1 := hid (HB.out.trans (hb.mono HB.out.size))
    clear hb
    go_wp2_with fail
    go_ret
    exact ⟨ret_bool HE.out.symm, HB1.out⟩
  case neg =>
    have g4 : (k1 == 4) = false := by simp [h4]
    have HE := hid (Ty.lives_mk ts lv h2 h4 n1 ks1)
    obtain ⟨ab, cb, rfl, -⟩ := hl
    clear h2 h4 hd hf hr ih hN hB
    go_enter Try.func67, Try.ntmps67
    go_wp2_with fail
    go_ret
    exact ⟨ret_bool HE.out.symm, HB.out⟩
theorem lives_allI (ts : List Dat) (a : Option Addr) (c : Nat) (lv : List Bool) (vl : Value) (hlen : lv.length = ts.length) : ∀ N, LvWI ts a c lv vl N
  | 0 => fun _ _ _ _ _ _ h => absurd h (by omega)
  | N + 1 => lives_stepI ts a c lv vl hlen N (lives_allI ts a c lv vl hlen N)
theorem impl_lives (ts : List Dat) (a : Option Addr) (c : Nat) (lv : List Bool) (vl : Value) (hlen : lv.length = ts.length) (k1 : Int) (n1 : ByteArray) (ks1 : List Ty) (aks1 : Option Addr) (cks1 : Nat) (w : World) (hf : fieldFit ts (Ty.mk k1 n1 ks1)) (hd : RdL w (Dat.ds ts) (.slice a ts.length c)) (hl : BoolsL w lv vl) (hr : RdS w (Ty.d (Ty.mk k1 n1 ks1)) [.int .i64 k1, .string n1, .slice aks1 ks1.length cks1]) :
    Calls Try.prog 67 #[.slice a ts.length c, vl, .agg #[.int .i64 k1, .string n1, .slice aks1 ks1.length cks1]] w fun e w' => e = .returned (.bool (Ty.lives ts lv (Ty.mk k1 n1 ks1))) ∧ Below w.heap.size w w' := lives_allI ts a c lv vl hlen (Ty.bulk (Ty.mk k1 n1 ks1) + 1) k1 n1 ks1 aks1 cks1 w (by omega) hf hd hl hr
end Go.Proofs.Ytgpefnlpbjnjbaa
