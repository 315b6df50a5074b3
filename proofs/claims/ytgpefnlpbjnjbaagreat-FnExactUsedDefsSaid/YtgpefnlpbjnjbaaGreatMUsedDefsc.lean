/- Walks: ValidProgram, in the program. -/
import Derived.Test.YtgpefnlpbjnjbaaGreatSc
import Derived.Lib.QuietBelow
import Derived.Test.YtgpefnlpbjnjbaaGreatTmPlain
import Derived.Test.YtgpefnlpbjnjbaaGreatThree
import Derived.Test.YtgpefnlpbjnjbaaGreatFst
import Derived.Test.YtgpefnlpbjnjbaaGreatDTm
import Derived.Test.YtgpefnlpbjnjbaaGreatTwo
import Derived.Test.YtgpefnlpbjnjbaaGreatTmNodes
import Derived.Test.YtgpefnlpbjnjbaaGreatTmSmall
import Derived.Test.YtgpefnlpbjnjbaaGreatKeep
import Derived.Test.YtgpefnlpbjnjbaaGreatTmShape
import Derived.Test.YtgpefnlpbjnjbaaGreatPgNamed
import Derived.Test.YtgpefnlpbjnjbaaGreatSzDf
import Derived.Test.YtgpefnlpbjnjbaaGreatDatOkI
namespace Go.Proofs.YtgpefnlpbjnjbaaGreat
open Go.ChangeShapes Go.WideShapes Go.ChangeAt Go.RowKit
open Go.Sort (grow)
set_option linter.unusedVariables false

def GivesIns (ts : List Int) (w : World) (e : Ending) (w' : World) : Prop :=
  ∃ (a : Option Addr) (c : Nat), e = .returned (.slice a ts.length c) ∧ OwnL w' w.heap.size (In.ds ts) (.slice a ts.length c) ∧ Below w.heap.size w w'
theorem infoIn : (Tryz.prog.info? 2).map (fun i => (i.zero, i.size, i.bytes)) = some (some (.int .i64 0), 1, 8) := by kernel_rfl
theorem makeIn (n : Nat) (hn : n ≤ 1048576) : ∃ C : Array Value, C.size = n * 1 ∧ ∀ w : World, (Instr.makeSlice 27 (.int .i64 (n : Int)) (.int .i64 (n : Int))).run Tryz.prog w = .ok (.slice (some ⟨w.heap.size, 0, none⟩) n n) (w.alloc (.cells C 2)) := by
  obtain ⟨i, hi, hz, hs, hb⟩ := info_parts infoIn
  refine ⟨madeCells (Value.cells (.int .i64 0)) (n * 1), size_madeCells _ _, fun w => ?_⟩
  have := run_make (P := Tryz.prog) w 27 2 i _ Tryz.underlying27 hi hz .i64 .i64 n n (by omega) (Int.le_refl _) (by rw [hb]; omega) (by omega)
  simp only [Int.toNat_natCast, hs] at this
  exact this
def GivesSrs (ts : List ByteArray) (w : World) (e : Ending) (w' : World) : Prop :=
  ∃ (a : Option Addr) (c : Nat), e = .returned (.slice a ts.length c) ∧ OwnL w' w.heap.size (Sr.ds ts) (.slice a ts.length c) ∧ Below w.heap.size w w'
theorem infoSr : (Tryz.prog.info? 9).map (fun i => (i.zero, i.size, i.bytes)) = some (some (.string ⟨#[]⟩), 1, 16) := by kernel_rfl
theorem makeSr (n : Nat) (hn : n ≤ 1048576) : ∃ C : Array Value, C.size = n * 1 ∧ ∀ w : World, (Instr.makeSlice 60 (.int .i64 (n : Int)) (.int .i64 (n : Int))).run Tryz.prog w = .ok (.slice (some ⟨w.heap.size, 0, none⟩) n n) (w.alloc (.cells C 9)) := by
  obtain ⟨i, hi, hz, hs, hb⟩ := info_parts infoSr
  refine ⟨madeCells (Value.cells (.string ⟨#[]⟩)) (n * 1), size_madeCells _ _, fun w => ?_⟩
  have := run_make (P := Tryz.prog) w 60 9 i _ Tryz.underlying60 hi hz .i64 .i64 n n (by omega) (Int.le_refl _) (by rw [hb]; omega) (by omega)
  simp only [Int.toNat_natCast, hs] at this
  exact this
theorem toSrs (ts : List ByteArray) (a : Option Addr) (c : Nat) (w : World) (hM : Sr.bulks ts ≤ 1048576) (hr : RdL w (Sr.ds ts) (.slice a ts.length c)) :
    Calls Tryz.prog 133 #[.slice a ts.length c] w (GivesSrs ts w) := by
  obtain ⟨_, _, e, h2, h3, h4⟩ := hr.eSr
  simp only [Value.slice.injEq, true_and] at e
  obtain ⟨rfl, rfl⟩ := e
  have hl := Sr.bulks_length ts
  obtain ⟨C, hC, hmk⟩ := makeSr ts.length (by omega)
  have HC := hid hC
  have H4 := hid h4
  clear hr h4 hC
  go_enter Tryz.func133, Tryz.ntmps133
  go_wp2_with fail
  clear hmk
  go_loopw [4] (fun i wr => ∃ (j : Nat), j ≤ ts.length ∧ i = .int .i64 j ∧ ∃ (cur : Array Value) (F : List Nat), wr.heap[w.heap.size]? = some (.cells cur 9 (0, 0)) ∧ Hid (cur.size = ts.length * 1) ∧ Hid (RdAll wr (Sr.ds (ts.take j)) (cur.toList.take (j * 1)) F) ∧ Owned wr (w.heap.size + 1) F ∧ Below w.heap.size w wr) (fun i _ => ts.length - (intOf i).toNat)
  case atStart => exact ⟨0, by omega, rfl, C, [], heap_alloc_new _ _, HC.out, by show RdAll _ _ _ _; simpa [Sr.ds] using RdAll.nil, Owned.nil _ _, (Below.refl _ _).alloc (Nat.le_refl _) _⟩
  case round =>
    obtain ⟨j, hj, rfl, cur, F, hcur, HS, HR, HO, hb⟩ := hrel
    by_cases hlt : j < ts.length
    · obtain ⟨b, o, rfl, hbl, hall⟩ := H4.out (by omega)
      obtain ⟨t, ht⟩ : ∃ t, ts[j]? = some t := ⟨_, List.getElem?_eq_getElem hlt⟩
      obtain ⟨q0, hfc⟩ := hall j t ht
      clear hall H4
      have d0 := (hb.cell (p := ⟨b, o + j, none⟩) hbl).trans q0
      have HT := hid ht
      have HFC := hid hfc
      have hcur1 := hcur
      have hb1 : Below wr.heap.size wr wr := Below.refl _ _
      clear ht q0 hcur hfc
      have hsz : j < cur.size := by have := HS.out; omega
      have e0 : wr.cell? ⟨w.heap.size, j, none⟩ = some (cur[j]'(by omega)) := by simp [World.cell?, hcur1]
      have f0 : wr.frozen? ⟨w.heap.size, j, none⟩ = false := by simp [World.frozen?, hcur1]
      have HCU := hid hcur1
      clear hcur1
      go_wp2_with fail
      have hr3 : Rd wr (Sr.d t) [.string t] [] := Rd.str_mk HFC.out
      have ho3 : Owned wr wr.heap.size [] := Owned.nil _ _
      have hB : w.heap.size < wr.heap.size := (Array.getElem?_eq_some_iff.1 HCU.out).1
      have hlo3 : ∀ y ∈ ([] : List Nat), wr.heap.size ≤ y := fun y hy => by simp at hy
      have hlo : ∀ x ∈ F, x < wr.heap.size := HO.lt
      obtain ⟨cur', H, g1, g2, g3, g4, g5⟩ := fill_step (m := 1) (base := w.heap.size + 1) HCU.out rfl (by have := HS.out; omega) (HR.out.below hb1) hr3 (HO.keep fun b hb => hb1.block b (hlo b hb)) (ho3.mono (by omega))
        (fun x hx => by have := (HO.2 x hx).1; omega) (fun x hx => by have := hlo3 x hx; omega) (fun x hx y hy => by have := hlo x hx; have := hlo3 y hy; omega)
      have hbw : Below w.heap.size w (setMany wr w.heap.size (j * 1) [.string t]) := Below.setMany _ _ (hb.trans (hb1.mono hb.size)) (Nat.le_refl _)
      have htk : Sr.ds (ts.take (j + 1)) = Sr.ds (ts.take j) ++ [Sr.d t] := Sr.ds_snoc ts j _ HT.out
      simp only [Nat.mul_one] at g1 g3 g4 hbw
      go_roundw
      case rel => exact ⟨j + 1, by omega, by go_num, cur', H, g1, by show _ = _; rw [g2]; exact HS.out, by show RdAll _ _ _ _; rw [htk, Nat.mul_one]; exact g3, g4, hbw⟩
      case measure => simp [intOf]; omega
    · obtain rfl : j = ts.length := by omega
      rw [List.take_length] at HR
      go_wp2_with fail
      go_ret
      obtain ⟨G, q1, q2⟩ := fill_done (m := 1) (base := w.heap.size) hcur HS.out (Sr.ds_length ts) (by omega) HR.out (HO.mono (by omega)) (Nat.le_refl _) (fun x hx => by have := (HO.2 x hx).1; omega)
      exact ⟨_, _, rfl, ⟨G, q1, q2⟩, hb⟩

def GivesBos (ts : List Bool) (w : World) (e : Ending) (w' : World) : Prop :=
  ∃ (a : Option Addr) (c : Nat), e = .returned (.slice a ts.length c) ∧ OwnL w' w.heap.size (Bo.ds ts) (.slice a ts.length c) ∧ Below w.heap.size w w'
theorem infoBo : (Tryz.prog.info? 4).map (fun i => (i.zero, i.size, i.bytes)) = some (some (.bool false), 1, 1) := by kernel_rfl
end Go.Proofs.YtgpefnlpbjnjbaaGreat

namespace Go.Proofs.YtgpefnlpbjnjbaaGreat
open Go.RowKit

/-- The names that a node binds in its kid i. -/
def boundOf (k : Int) (n : ByteArray) (ns : List ByteArray) (i : Nat) : List ByteArray := if k = 4 then [n] else if k = 7 then (if i = 1 then [n] else []) else if k = 10 then ns else []
/-- Whether a kid is one of several branches. -/
def isBr (k : Int) (i : Nat) : Bool := decide (0 < i) && (decide (k = 9) || decide (k = 11))
def sumU (k : Int) : Nat → List Int → Int
  | _, [] => 0
  | i, x :: xs => (if isBr k i = true then 0 else x) + sumU k (i + 1) xs
def maxU (k : Int) : Nat → List Int → Int
  | _, [] => 0
  | i, x :: xs => max (if isBr k i = true then x else 0) (maxU k (i + 1) xs)
def useOf (bs : List ByteArray) (s : ByteArray) (x : Int) : Int := if hasStr bs s = true then 0 else x
mutual
def Tm.uses (s : ByteArray) : Tm → Int
  | .mk k _ n _ ns ks => if k = 1 then (if n = s then 1 else 0) else sumU k 0 (Tm.ulist s k n ns 0 ks) + maxU k 0 (Tm.ulist s k n ns 0 ks)
def Tm.ulist (s : ByteArray) (k : Int) (n : ByteArray) (ns : List ByteArray) : Nat → List Tm → List Int
  | _, [] => []
  | i, t :: ts => useOf (boundOf k n ns i) s (Tm.uses s t) :: Tm.ulist s k n ns (i + 1) ts
end
theorem Tm.ulist_get (s : ByteArray) (k : Int) (n : ByteArray) (ns : List ByteArray) : ∀ (ts : List Tm) (i j : Nat) (t : Tm), ts[j]? = some t → (Tm.ulist s k n ns i ts)[j]? = some (useOf (boundOf k n ns (i + j)) s (Tm.uses s t))
  | [], i, j, t, h => by simp at h
  | u :: ts, i, 0, t, h => by simp at h; subst h; simp [Tm.ulist]
  | u :: ts, i, j + 1, t, h => by rw [Tm.ulist, List.getElem?_cons_succ, Tm.ulist_get s k n ns ts (i + 1) j t (by simpa using h), show i + 1 + j = i + (j + 1) by omega]
theorem Tm.ulist_length (s : ByteArray) (k : Int) (n : ByteArray) (ns : List ByteArray) : ∀ (ts : List Tm) (i : Nat), (Tm.ulist s k n ns i ts).length = ts.length
  | [], i => by simp [Tm.ulist]
  | u :: ts, i => by simp [Tm.ulist, Tm.ulist_length s k n ns ts (i + 1)]
theorem sumU_take (k : Int) : ∀ (xs : List Int) (i j : Nat) (x : Int), xs[j]? = some x → sumU k i (xs.take (j + 1)) = sumU k i (xs.take j) + (if isBr k (i + j) = true then 0 else x)
  | [], i, j, x, h => by simp at h
  | y :: xs, i, 0, x, h => by simp at h; subst h; simp [sumU]
  | y :: xs, i, j + 1, x, h => by
    have := sumU_take k xs (i + 1) j x (by simpa using h)
    rw [show i + 1 + j = i + (j + 1) by omega] at this
    simp only [List.take_succ_cons, sumU, this]; omega
theorem maxU_take (k : Int) : ∀ (xs : List Int) (i j : Nat) (x : Int), (∀ y ∈ xs, 0 ≤ y) → xs[j]? = some x → maxU k i (xs.take (j + 1)) = max (maxU k i (xs.take j)) (if isBr k (i + j) = true then x else 0)
  | [], i, j, x, _, h => by simp at h
  | y :: xs, i, 0, x, hp, h => by
    simp at h; subst h
    have := hp y (by simp)
    simp only [List.take_succ_cons, List.take_zero, maxU, Nat.add_zero]
    split <;> omega
  | y :: xs, i, j + 1, x, hp, h => by
    have := maxU_take k xs (i + 1) j x (fun z hz => hp z (by simp [hz])) (by simpa using h)
    rw [show i + 1 + j = i + (j + 1) by omega] at this
    simp only [List.take_succ_cons, maxU, this]; omega
theorem sm_le (k : Int) : ∀ (xs : List Int) (i j : Nat), (∀ y ∈ xs, 0 ≤ y) → 0 ≤ sumU k i (xs.take j) ∧ 0 ≤ maxU k i (xs.take j) ∧ sumU k i (xs.take j) + maxU k i (xs.take j) ≤ xs.sum
  | [], i, j, _ => by simp [sumU, maxU]
  | y :: xs, i, 0, hp => by
    have h := sm_le k xs (i + 1) 0 fun z hz => hp z (by simp [hz])
    have := hp y (by simp)
    simp [sumU, maxU] at *; omega
  | y :: xs, i, j + 1, hp => by
    have h := sm_le k xs (i + 1) j fun z hz => hp z (by simp [hz])
    have := hp y (by simp)
    simp only [List.take_succ_cons, sumU, maxU, List.sum_cons]
    split <;> omega
mutual
theorem Tm.uses_le (s : ByteArray) : ∀ t : Tm, 0 ≤ Tm.uses s t ∧ Tm.uses s t ≤ Tm.cnt t
  | .mk k u n t ns ks => by
    have h := Tm.ulist_le s k n ns 0 ks
    have h2 := sm_le k (Tm.ulist s k n ns 0 ks) 0 (Tm.ulist s k n ns 0 ks).length h.1
    rw [List.take_length] at h2
    rw [Tm.uses, Tm.cnt]
    split
    · split <;> omega
    · omega
theorem Tm.ulist_le (s : ByteArray) (k : Int) (n : ByteArray) (ns : List ByteArray) : ∀ (i : Nat) (ts : List Tm), (∀ y ∈ Tm.ulist s k n ns i ts, 0 ≤ y) ∧ (Tm.ulist s k n ns i ts).sum ≤ Tm.cnts ts
  | i, [] => by simp [Tm.ulist, Tm.cnts]
  | i, t :: ts => by
    have h := Tm.uses_le s t
    have h2 := Tm.ulist_le s k n ns (i + 1) ts
    rw [Tm.ulist, Tm.cnts, List.sum_cons]
    have h3 : 0 ≤ useOf (boundOf k n ns i) s (Tm.uses s t) ∧ useOf (boundOf k n ns i) s (Tm.uses s t) ≤ Tm.cnt t := by unfold useOf; split <;> omega
    refine ⟨fun y hy => ?_, by omega⟩
    rcases List.mem_cons.1 hy with rfl | hy
    · exact h3.1
    · exact h2.1 y hy
end
def usesN (t : Tm) (s : ByteArray) : Int := if Tm.ok t then Tm.uses s t else 0
theorem usesN_yes {t : Tm} (s : ByteArray) (h : Tm.ok t = true) : usesN t s = Tm.uses s t := if_pos h
theorem usesN_no {t : Tm} (s : ByteArray) (h : Tm.ok t = false) : usesN t s = 0 := by rw [usesN, h]; rfl
theorem Tm.uses_var (s : ByteArray) (u : Int) (n : ByteArray) (t : Ty) (ns : List ByteArray) (ks : List Tm) : Tm.uses s (.mk 1 u n t ns ks) = if n = s then 1 else 0 := by rw [Tm.uses]; rfl
theorem Tm.uses_mk (s : ByteArray) {k : Int} (hk : k ≠ 1) (u : Int) (n : ByteArray) (t : Ty) (ns : List ByteArray) (ks : List Tm) : Tm.uses s (.mk k u n t ns ks) = sumU k 0 (Tm.ulist s k n ns 0 ks) + maxU k 0 (Tm.ulist s k n ns 0 ks) := by rw [Tm.uses, if_neg hk]
end Go.Proofs.YtgpefnlpbjnjbaaGreat

namespace Go.Proofs.YtgpefnlpbjnjbaaGreat
open Go.ChangeShapes Go.WideShapes Go.ChangeAt Go.RowKit
set_option linter.unusedVariables false

set_option maxRecDepth 100000 in
set_option maxHeartbeats 1000000 in
theorem indexFunc_Tm_1 (F : FuncId) (eF : ∀ args (w : World), (callFunc F args).run Tryz.prog w = .ok (.enter F args) w) (q0 : Value) (p : Tm → Bool) (Good : World → Prop) (hk : ∀ w w', Below w.heap.size w w' → Good w → Good w') (ts : List Tm) (a : Option Addr) (c : Nat) (w : World) (hg : Good w) (hr : RdL w (Tm.ds ts) (.slice a ts.length c))
    (hc : ∀ (k3 : Int) (u3 : Int) (n3 : ByteArray) (tk3 : Int) (tn3 : ByteArray) (tks3 : List Ty) (ns3 : List ByteArray) (ks3 : List Tm) (atks3 : Option Addr) (ctks3 : Nat) (ans3 : Option Addr) (cns3 : Nat) (aks3 : Option Addr) (cks3 : Nat) (j : Nat) (W : World), ts[j]? = some (Tm.mk k3 u3 n3 (Ty.mk tk3 tn3 tks3) ns3 ks3) → Good W → RdS W (Tm.d (Tm.mk k3 u3 n3 (Ty.mk tk3 tn3 tks3) ns3 ks3)) [.int .i64 k3, .int .i64 u3, .string n3, .int .i64 tk3, .string tn3, .slice atks3 tks3.length ctks3, .slice ans3 ns3.length cns3, .slice aks3 ks3.length cks3] → Calls Tryz.prog F #[.agg #[.int .i64 k3, .int .i64 u3, .string n3, .int .i64 tk3, .string tn3, .slice atks3 tks3.length ctks3, .slice ans3 ns3.length cns3, .slice aks3 ks3.length cks3], q0] W fun e w' => e = .returned (.bool (p (Tm.mk k3 u3 n3 (Ty.mk tk3 tn3 tks3) ns3 ks3))) ∧ Below W.heap.size W w') :
    Calls Tryz.prog 108 #[.slice a ts.length c, .func (.func F) #[] #[q0]] w fun e w' => e = .returned (.int .i64 (fstAt p ts)) ∧ Below w.heap.size w w' := by
  obtain ⟨_, _, e, h2, h3, h4⟩ := hr.eTm
  simp only [Value.slice.injEq, true_and] at e
  obtain ⟨rfl, rfl⟩ := e
  have H4 := hid h4
  have HC0 := hid hc
  have HK := hid hk
  have HG := hid hg
  clear hr h4 hc hk hg
  go_enter Tryz.func108, Tryz.ntmps108
  go_wp2_with fail
  go_loopw [5, 8] (fun _ i wr => ∃ (j : Nat), j ≤ ts.length ∧ i = .int .i64 j ∧ Hid (∀ (i : Nat) t, i < j → ts[i]? = some t → p t = false) ∧ Below w.heap.size w wr) (fun _ i _ => ts.length - (intOf i).toNat)
  case atStart => exact ⟨0, by omega, rfl, fun i t hi => absurd hi (by omega), Below.refl _ _⟩
  case round =>
    obtain ⟨j, hj, rfl, HJ, hb⟩ := hrel
    by_cases hlt : j < ts.length
    case pos =>
      obtain ⟨b, o, rfl, hbl, hall⟩ := H4.out (by omega)
      obtain ⟨t, ht⟩ : ∃ t, ts[j]? = some t := ⟨_, List.getElem?_eq_getElem hlt⟩
      obtain ⟨k3, u3, n3, ⟨tk3, tn3, tks3⟩, ns3, ks3⟩ := t
      obtain ⟨atks3, ctks3, ans3, cns3, aks3, cks3, q_0, q_1, q_2, q_3, q_4, q_5, q_6, q_7, hrk⟩ := hall j k3 u3 n3 tk3 tn3 tks3 ns3 ks3 ht
      clear hall H4
      have d0 := (hb.cell (p := ⟨b, o + j * 8, none⟩) hbl).trans q_0
      have d1 := (hb.cell (p := ⟨b, o + j * 8 + 1, none⟩) hbl).trans q_1
      have d2 := (hb.cell (p := ⟨b, o + j * 8 + 2, none⟩) hbl).trans q_2
      have d3 := (hb.cell (p := ⟨b, o + j * 8 + 3, none⟩) hbl).trans q_3
      have d4 := (hb.cell (p := ⟨b, o + j * 8 + 4, none⟩) hbl).trans q_4
      have d5 := (hb.cell (p := ⟨b, o + j * 8 + 5, none⟩) hbl).trans q_5
      have d6 := (hb.cell (p := ⟨b, o + j * 8 + 6, none⟩) hbl).trans q_6
      have d7 := (hb.cell (p := ⟨b, o + j * 8 + 7, none⟩) hbl).trans q_7
      have hcc := fun hG => HC0.out k3 u3 n3 tk3 tn3 tks3 ns3 ks3 atks3 ctks3 ans3 cns3 aks3 cks3 j wr ht hG (hrk.below hb)
      have HT := hid ht
      have HGW := hid (HK.out _ _ hb HG.out)
      by_cases hq : p (Tm.mk k3 u3 n3 (Ty.mk tk3 tn3 tks3) ns3 ks3) = true
      case pos =>
        rw [hq] at hcc
        have HC := hid hcc
        have HQ := hid hq
        clear ht hrk q_0 q_1 q_2 q_3 q_4 q_5 q_6 q_7 hcc hq HC0
        go_wp2_with fail
        refine (HC.out HGW.out).mono ?_
        clear HC
        rintro e w1 ⟨rfl, hb1⟩
        have hbw := hb.trans (hb1.mono hb.size)
        clear hb1
        go_wp2_with fail
        go_ret
        exact ⟨ret_int (fstAt_yes p ts j _ HT.out HQ.out HJ.out).symm, hbw⟩
      case neg =>
        replace hq := (Bool.not_eq_true _).mp hq
        rw [hq] at hcc
        have HC := hid hcc
        have HQ := hid hq
        clear ht hrk q_0 q_1 q_2 q_3 q_4 q_5 q_6 q_7 hcc hq HC0
        go_wp2_with fail
        refine (HC.out HGW.out).mono ?_
        clear HC
        rintro e w1 ⟨rfl, hb1⟩
        have hbw := hb.trans (hb1.mono hb.size)
        clear hb1
        go_wp2_with fail
        go_roundw
        case rel => exact ⟨j + 1, by omega, by go_num, fun i t hi hti => (Nat.lt_succ_iff_lt_or_eq.1 hi).elim (fun hi => HJ.out i t hi hti) (fun he => by subst he; obtain rfl := Option.some.inj (hti.symm.trans HT.out); exact HQ.out), hbw⟩
        case measure => simp [intOf]; omega
    case neg =>
      go_wp2_with fail
      go_ret
      exact ⟨ret_int (fstAt_no p ts fun i t hti => HJ.out i t (by have := (List.getElem?_eq_some_iff.1 hti).1; omega) hti).symm, hb⟩
theorem contains_Tm_1 (F : FuncId) (eF : ∀ args (w : World), (callFunc F args).run Tryz.prog w = .ok (.enter F args) w) (q0 : Value) (p : Tm → Bool) (Good : World → Prop) (hk : ∀ w w', Below w.heap.size w w' → Good w → Good w') (ts : List Tm) (a : Option Addr) (c : Nat) (w : World) (hg : Good w) (hr : RdL w (Tm.ds ts) (.slice a ts.length c))
    (hc : ∀ (k3 : Int) (u3 : Int) (n3 : ByteArray) (tk3 : Int) (tn3 : ByteArray) (tks3 : List Ty) (ns3 : List ByteArray) (ks3 : List Tm) (atks3 : Option Addr) (ctks3 : Nat) (ans3 : Option Addr) (cns3 : Nat) (aks3 : Option Addr) (cks3 : Nat) (j : Nat) (W : World), ts[j]? = some (Tm.mk k3 u3 n3 (Ty.mk tk3 tn3 tks3) ns3 ks3) → Good W → RdS W (Tm.d (Tm.mk k3 u3 n3 (Ty.mk tk3 tn3 tks3) ns3 ks3)) [.int .i64 k3, .int .i64 u3, .string n3, .int .i64 tk3, .string tn3, .slice atks3 tks3.length ctks3, .slice ans3 ns3.length cns3, .slice aks3 ks3.length cks3] → Calls Tryz.prog F #[.agg #[.int .i64 k3, .int .i64 u3, .string n3, .int .i64 tk3, .string tn3, .slice atks3 tks3.length ctks3, .slice ans3 ns3.length cns3, .slice aks3 ks3.length cks3], q0] W fun e w' => e = .returned (.bool (p (Tm.mk k3 u3 n3 (Ty.mk tk3 tn3 tks3) ns3 ks3))) ∧ Below W.heap.size W w') :
    Calls Tryz.prog 71 #[.slice a ts.length c, .func (.func F) #[] #[q0]] w fun e w' => e = .returned (.bool (ts.any p)) ∧ Below w.heap.size w w' := by
  have HC := hid (indexFunc_Tm_1 F eF q0 p Good hk ts a c w hg hr hc)
  have HR := hid (fstAt_any p ts)
  clear hr hc hk hg eF
  generalize fstAt p ts = r at HC HR
  generalize ts.any p = bb at HR ⊢
  go_enter Tryz.func71, Tryz.ntmps71
  go_wp2_with fail
  refine HC.out.mono ?_
  rintro e w1 ⟨rfl, hb⟩
  go_wp2_with fail
  go_ret
  exact ⟨ret_bool HR.out, hb⟩

end Go.Proofs.YtgpefnlpbjnjbaaGreat

namespace Go.Proofs.YtgpefnlpbjnjbaaGreat
open Go.ChangeShapes Go.WideShapes Go.ChangeAt Go.RowKit
set_option linter.unusedVariables false

mutual
def Tm.anyN (p : Tm → Bool) : Tm → Bool
  | .mk k u n t ns ks => p (.mk k u n t ns ks) || Tm.anyNs p ks
def Tm.anyNs (p : Tm → Bool) : List Tm → Bool
  | [] => false
  | t :: ts => Tm.anyN p t || Tm.anyNs p ts
end
theorem Tm.anyNs_any (p : Tm → Bool) : ∀ ts : List Tm, ts.any (Tm.anyN p) = Tm.anyNs p ts
  | [] => rfl
  | t :: ts => by rw [List.any_cons, Tm.anyNs_any p ts, Tm.anyNs]
/-- The contract of a function value with one captured variable. -/
abbrev FnTm1 (F : FuncId) (q : Value) (p : Tm → Bool) (Ok : Tm → Prop) (Good : World → Prop) (N : Nat) : Prop :=
  ∀ (k1 : Int) (u1 : Int) (n1 : ByteArray) (tk1 : Int) (tn1 : ByteArray) (tks1 : List Ty) (ns1 : List ByteArray) (ks1 : List Tm) (atks1 : Option Addr) (ctks1 : Nat) (ans1 : Option Addr) (cns1 : Nat) (aks1 : Option Addr) (cks1 : Nat) (W : World), Tm.bulk (Tm.mk k1 u1 n1 (Ty.mk tk1 tn1 tks1) ns1 ks1) < N → Ok (Tm.mk k1 u1 n1 (Ty.mk tk1 tn1 tks1) ns1 ks1) → Good W → RdS W (Tm.d (Tm.mk k1 u1 n1 (Ty.mk tk1 tn1 tks1) ns1 ks1)) [.int .i64 k1, .int .i64 u1, .string n1, .int .i64 tk1, .string tn1, .slice atks1 tks1.length ctks1, .slice ans1 ns1.length cns1, .slice aks1 ks1.length cks1] → Calls Tryz.prog F #[.agg #[.int .i64 k1, .int .i64 u1, .string n1, .int .i64 tk1, .string tn1, .slice atks1 tks1.length ctks1, .slice ans1 ns1.length cns1, .slice aks1 ks1.length cks1], q] W fun e w' => e = .returned (.bool (p (Tm.mk k1 u1 n1 (Ty.mk tk1 tn1 tks1) ns1 ks1))) ∧ Below W.heap.size W w'
theorem anyT1_clo (F : FuncId) (q : Value) (p : Tm → Bool) (Ok : Tm → Prop) (Good : World → Prop) (hk : ∀ w w', Below w.heap.size w w' → Good w → Good w') (N : Nat)
    (ih : ∀ (k1 : Int) (u1 : Int) (n1 : ByteArray) (tk1 : Int) (tn1 : ByteArray) (tks1 : List Ty) (ns1 : List ByteArray) (ks1 : List Tm) (atks1 : Option Addr) (ctks1 : Nat) (ans1 : Option Addr) (cns1 : Nat) (aks1 : Option Addr) (cks1 : Nat) (W : World), Tm.bulk (Tm.mk k1 u1 n1 (Ty.mk tk1 tn1 tks1) ns1 ks1) < N → Ok (Tm.mk k1 u1 n1 (Ty.mk tk1 tn1 tks1) ns1 ks1) → Good W → RdS W (Tm.d (Tm.mk k1 u1 n1 (Ty.mk tk1 tn1 tks1) ns1 ks1)) [.int .i64 k1, .int .i64 u1, .string n1, .int .i64 tk1, .string tn1, .slice atks1 tks1.length ctks1, .slice ans1 ns1.length cns1, .slice aks1 ks1.length cks1] → Calls Tryz.prog 36 #[.agg #[.int .i64 k1, .int .i64 u1, .string n1, .int .i64 tk1, .string tn1, .slice atks1 tks1.length ctks1, .slice ans1 ns1.length cns1, .slice aks1 ks1.length cks1], .func (.func F) #[] #[q]] W fun e w' => e = .returned (.bool (Tm.anyN p (Tm.mk k1 u1 n1 (Ty.mk tk1 tn1 tks1) ns1 ks1))) ∧ Below W.heap.size W w')
    (k1 : Int) (u1 : Int) (n1 : ByteArray) (tk1 : Int) (tn1 : ByteArray) (tks1 : List Ty) (ns1 : List ByteArray) (ks1 : List Tm) (atks1 : Option Addr) (ctks1 : Nat) (ans1 : Option Addr) (cns1 : Nat) (aks1 : Option Addr) (cks1 : Nat) (pp : Addr) (w : World) (hN : Tm.bulk (Tm.mk k1 u1 n1 (Ty.mk tk1 tn1 tks1) ns1 ks1) < N) (ho : Ok (Tm.mk k1 u1 n1 (Ty.mk tk1 tn1 tks1) ns1 ks1)) (hg : Good w) (hp : w.cell? pp = some (.func (.func F) #[] #[q])) (hr : RdS w (Tm.d (Tm.mk k1 u1 n1 (Ty.mk tk1 tn1 tks1) ns1 ks1)) [.int .i64 k1, .int .i64 u1, .string n1, .int .i64 tk1, .string tn1, .slice atks1 tks1.length ctks1, .slice ans1 ns1.length cns1, .slice aks1 ks1.length cks1]) :
    Calls Tryz.prog 72 #[.agg #[.int .i64 k1, .int .i64 u1, .string n1, .int .i64 tk1, .string tn1, .slice atks1 tks1.length ctks1, .slice ans1 ns1.length cns1, .slice aks1 ks1.length cks1], .pointer (some pp)] w fun e w' => e = .returned (.bool (Tm.anyN p (Tm.mk k1 u1 n1 (Ty.mk tk1 tn1 tks1) ns1 ks1))) ∧ Below w.heap.size w w' := by
  have hB := (Below.refl w.heap.size w).alloc (Nat.le_refl _) (.cells #[.int .i64 k1, .int .i64 u1, .string n1, .int .i64 tk1, .string tn1, .slice atks1 tks1.length ctks1, .slice ans1 ns1.length cns1, .slice aks1 ks1.length cks1] 63)
  have HC := hid (ih k1 u1 n1 tk1 tn1 tks1 ns1 ks1 atks1 ctks1 ans1 cns1 aks1 cks1 _ hN ho (hk _ _ hB hg) (hr.below hB))
  have hp' := (hB.cell (p := pp) (World.block_lt_of_cell? _ _ hp)).trans hp
  have HB := hid hB
  clear hB hr ih hp hk hg
  go_enter Tryz.func72, Tryz.ntmps72
  go_wp2_with fail
  refine HC.out.mono ?_
  rintro e w1 ⟨rfl, hb⟩
  have HB1 := hid (HB.out.trans (hb.mono HB.out.size))
  clear hb
  go_wp2_with fail
  go_ret
  exact ⟨rfl, HB1.out⟩
set_option maxRecDepth 100000 in
theorem anyT1_step (F : FuncId) (eF : ∀ args (w : World), (callFunc F args).run Tryz.prog w = .ok (.enter F args) w) (q : Value) (p : Tm → Bool) (Ok : Tm → Prop) (Good : World → Prop) (hOk : ∀ (k u : Int) (n : ByteArray) (t : Ty) (ns : List ByteArray) (ks : List Tm) (j : Nat) (x : Tm), Ok (.mk k u n t ns ks) → ks[j]? = some x → Ok x) (hk : ∀ w w', Below w.heap.size w w' → Good w → Good w') (M : Nat) (hF : FnTm1 F q p Ok Good M) (N : Nat) (hNM : N < M)
    (ih : ∀ (k1 : Int) (u1 : Int) (n1 : ByteArray) (tk1 : Int) (tn1 : ByteArray) (tks1 : List Ty) (ns1 : List ByteArray) (ks1 : List Tm) (atks1 : Option Addr) (ctks1 : Nat) (ans1 : Option Addr) (cns1 : Nat) (aks1 : Option Addr) (cks1 : Nat) (W : World), Tm.bulk (Tm.mk k1 u1 n1 (Ty.mk tk1 tn1 tks1) ns1 ks1) < N → Ok (Tm.mk k1 u1 n1 (Ty.mk tk1 tn1 tks1) ns1 ks1) → Good W → RdS W (Tm.d (Tm.mk k1 u1 n1 (Ty.mk tk1 tn1 tks1) ns1 ks1)) [.int .i64 k1, .int .i64 u1, .string n1, .int .i64 tk1, .string tn1, .slice atks1 tks1.length ctks1, .slice ans1 ns1.length cns1, .slice aks1 ks1.length cks1] → Calls Tryz.prog 36 #[.agg #[.int .i64 k1, .int .i64 u1, .string n1, .int .i64 tk1, .string tn1, .slice atks1 tks1.length ctks1, .slice ans1 ns1.length cns1, .slice aks1 ks1.length cks1], .func (.func F) #[] #[q]] W fun e w' => e = .returned (.bool (Tm.anyN p (Tm.mk k1 u1 n1 (Ty.mk tk1 tn1 tks1) ns1 ks1))) ∧ Below W.heap.size W w') :
    ∀ (k1 : Int) (u1 : Int) (n1 : ByteArray) (tk1 : Int) (tn1 : ByteArray) (tks1 : List Ty) (ns1 : List ByteArray) (ks1 : List Tm) (atks1 : Option Addr) (ctks1 : Nat) (ans1 : Option Addr) (cns1 : Nat) (aks1 : Option Addr) (cks1 : Nat) (w : World), Tm.bulk (Tm.mk k1 u1 n1 (Ty.mk tk1 tn1 tks1) ns1 ks1) < N + 1 → Ok (Tm.mk k1 u1 n1 (Ty.mk tk1 tn1 tks1) ns1 ks1) → Good w → RdS w (Tm.d (Tm.mk k1 u1 n1 (Ty.mk tk1 tn1 tks1) ns1 ks1)) [.int .i64 k1, .int .i64 u1, .string n1, .int .i64 tk1, .string tn1, .slice atks1 tks1.length ctks1, .slice ans1 ns1.length cns1, .slice aks1 ks1.length cks1] → Calls Tryz.prog 36 #[.agg #[.int .i64 k1, .int .i64 u1, .string n1, .int .i64 tk1, .string tn1, .slice atks1 tks1.length ctks1, .slice ans1 ns1.length cns1, .slice aks1 ks1.length cks1], .func (.func F) #[] #[q]] w fun e w' => e = .returned (.bool (Tm.anyN p (Tm.mk k1 u1 n1 (Ty.mk tk1 tn1 tks1) ns1 ks1))) ∧ Below w.heap.size w w' := by
  intro k1 u1 n1 tk1 tn1 tks1 ns1 ks1 atks1 ctks1 ans1 cns1 aks1 cks1 w hN ho hg hr
  have hbk : Tm.bulk (Tm.mk k1 u1 n1 (Ty.mk tk1 tn1 tks1) ns1 ks1) = n1.size + Ty.bulk (Ty.mk tk1 tn1 tks1) + Sr.bulks ns1 + Tm.bulks ks1 := rfl
  have HE := hid (show Tm.anyN p (Tm.mk k1 u1 n1 (Ty.mk tk1 tn1 tks1) ns1 ks1) = (p (Tm.mk k1 u1 n1 (Ty.mk tk1 tn1 tks1) ns1 ks1) || Tm.anyNs p ks1) from by rw [Tm.anyN])
  have HX0 := hid (((Boxes.nil w).alloc #[.int .i64 k1, .int .i64 u1, .string n1, .int .i64 tk1, .string tn1, .slice atks1 tks1.length ctks1, .slice ans1 ns1.length cns1, .slice aks1 ks1.length cks1] 63 (0, 0)).alloc #[.func (.func F) #[] #[q]] 68 (0, 0))
  have hB : Below w.heap.size w ((w.alloc (.cells #[.int .i64 k1, .int .i64 u1, .string n1, .int .i64 tk1, .string tn1, .slice atks1 tks1.length ctks1, .slice ans1 ns1.length cns1, .slice aks1 ks1.length cks1] 63)).alloc (.cells #[.func (.func F) #[] #[q]] 68)) := ((Below.refl _ _).alloc (Nat.le_refl _) _).alloc (by simp) _
  have hc := fun W (hW : Below w.heap.size w W) (hp : W.cell? ⟨w.heap.size + 1, 0, none⟩ = some (.func (.func F) #[] #[q])) =>
    contains_Tm_1 72 Tryz.call72 (.pointer (some ⟨w.heap.size + 1, 0, none⟩)) (Tm.anyN p) (fun V => Good V ∧ V.cell? ⟨w.heap.size + 1, 0, none⟩ = some (.func (.func F) #[] #[q]))
      (fun a b hab ⟨h1, h2⟩ => ⟨hk a b hab h1, (hab.cell (p := ⟨w.heap.size + 1, 0, none⟩) (World.block_lt_of_cell? _ _ h2)).trans h2⟩) ks1 aks1 cks1 W ⟨hk _ _ hW hg, hp⟩ (hr.fTm.2.2.2.2.2.below hW)
      (fun k3 u3 n3 tk3 tn3 tks3 ns3 ks3 atks3 ctks3 ans3 cns3 aks3 cks3 j V hj hV hrv => anyT1_clo F q p Ok Good hk N ih k3 u3 n3 tk3 tn3 tks3 ns3 ks3 atks3 ctks3 ans3 cns3 aks3 cks3 _ V (by have := Tm.bulk_get ks1 j _ hj; omega) (hOk _ _ _ _ _ _ _ _ ho hj) hV.1 hV.2 hrv)
  have hv := hF k1 u1 n1 tk1 tn1 tks1 ns1 ks1 atks1 ctks1 ans1 cns1 aks1 cks1 ((w.alloc (.cells #[.int .i64 k1, .int .i64 u1, .string n1, .int .i64 tk1, .string tn1, .slice atks1 tks1.length ctks1, .slice ans1 ns1.length cns1, .slice aks1 ks1.length cks1] 63)).alloc (.cells #[.func (.func F) #[] #[q]] 68)) (by omega) ho (hk _ _ hB hg) (hr.below hB)
  have HB := hid hB
  rw [Tm.anyNs_any] at hc
  have HC := hid hc
  clear hc hr hB ih hbk hN hF hk hg hNM ho hOk
  by_cases hq : p (Tm.mk k1 u1 n1 (Ty.mk tk1 tn1 tks1) ns1 ks1) = true
  case pos =>
    rw [hq] at hv
    have HV := hid hv
    have HQ := hid hq
    clear hv hq HC
    go_enter Tryz.func36, Tryz.ntmps36
    go_wp2_with fail
    refine HV.out.mono ?_
    rintro e w1 ⟨rfl, hb⟩
    have HB1 := hid (HB.out.trans (hb.mono HB.out.size))
    clear hb
    go_wp2_with fail
    go_ret
    exact ⟨ret_bool (by rw [HE.out, HQ.out]; rfl), HB1.out⟩
  case neg =>
    replace hq := (Bool.not_eq_true _).mp hq
    rw [hq] at hv
    have HV := hid hv
    have HQ := hid hq
    clear hv hq
    go_enter Tryz.func36, Tryz.ntmps36
    go_wp2_with fail
    refine HV.out.mono ?_
    rintro e w1 ⟨rfl, hb⟩
    have HB1 := hid (HB.out.trans (hb.mono HB.out.size))
    have HX1 := hid (HX0.out.below hb)
    have g3 := HX1.out.at 1 7 rfl rfl
    have gf := HX1.out.at 0 0 rfl rfl
    simp only [World.size_alloc] at gf
    have GF := hid gf
    clear hb gf
    go_wp2_with fail
    refine (HC.out _ HB1.out GF.out).mono ?_
    rintro e w2 ⟨rfl, hb⟩
    have HB2 := hid (HB1.out.trans (hb.mono HB1.out.size))
    clear hb
    go_wp2_with fail
    go_ret
    exact ⟨ret_bool (by rw [HE.out, HQ.out]; rfl), HB2.out⟩
theorem anyT1_all (F : FuncId) (eF : ∀ args (w : World), (callFunc F args).run Tryz.prog w = .ok (.enter F args) w) (q : Value) (p : Tm → Bool) (Ok : Tm → Prop) (Good : World → Prop) (hOk : ∀ (k u : Int) (n : ByteArray) (t : Ty) (ns : List ByteArray) (ks : List Tm) (j : Nat) (x : Tm), Ok (.mk k u n t ns ks) → ks[j]? = some x → Ok x) (hk : ∀ w w', Below w.heap.size w w' → Good w → Good w') (M : Nat) (hF : FnTm1 F q p Ok Good M) : ∀ N, N ≤ M →
    ∀ (k1 : Int) (u1 : Int) (n1 : ByteArray) (tk1 : Int) (tn1 : ByteArray) (tks1 : List Ty) (ns1 : List ByteArray) (ks1 : List Tm) (atks1 : Option Addr) (ctks1 : Nat) (ans1 : Option Addr) (cns1 : Nat) (aks1 : Option Addr) (cks1 : Nat) (W : World), Tm.bulk (Tm.mk k1 u1 n1 (Ty.mk tk1 tn1 tks1) ns1 ks1) < N → Ok (Tm.mk k1 u1 n1 (Ty.mk tk1 tn1 tks1) ns1 ks1) → Good W → RdS W (Tm.d (Tm.mk k1 u1 n1 (Ty.mk tk1 tn1 tks1) ns1 ks1)) [.int .i64 k1, .int .i64 u1, .string n1, .int .i64 tk1, .string tn1, .slice atks1 tks1.length ctks1, .slice ans1 ns1.length cns1, .slice aks1 ks1.length cks1] → Calls Tryz.prog 36 #[.agg #[.int .i64 k1, .int .i64 u1, .string n1, .int .i64 tk1, .string tn1, .slice atks1 tks1.length ctks1, .slice ans1 ns1.length cns1, .slice aks1 ks1.length cks1], .func (.func F) #[] #[q]] W fun e w' => e = .returned (.bool (Tm.anyN p (Tm.mk k1 u1 n1 (Ty.mk tk1 tn1 tks1) ns1 ks1))) ∧ Below W.heap.size W w'
  | 0, _ => fun _ _ _ _ _ _ _ _ _ _ _ _ _ _ _  h => absurd h (by omega)
  | N + 1, h => anyT1_step F eF q p Ok Good hOk hk M hF N (by omega) (anyT1_all F eF q p Ok Good hOk hk M hF N (by omega))
/-- The contract of a function value with one captured variable. -/
abbrev FnTmb (F : FuncId) (q : Value) (p : Tm → Bool) (Ok : Tm → Prop) (Good : World → Prop) (N : Nat) : Prop :=
  ∀ (k1 : Int) (u1 : Int) (n1 : ByteArray) (tk1 : Int) (tn1 : ByteArray) (tks1 : List Ty) (ns1 : List ByteArray) (ks1 : List Tm) (atks1 : Option Addr) (ctks1 : Nat) (ans1 : Option Addr) (cns1 : Nat) (aks1 : Option Addr) (cks1 : Nat) (W : World), Tm.bulk (Tm.mk k1 u1 n1 (Ty.mk tk1 tn1 tks1) ns1 ks1) < N → Ok (Tm.mk k1 u1 n1 (Ty.mk tk1 tn1 tks1) ns1 ks1) → Good W → RdS W (Tm.d (Tm.mk k1 u1 n1 (Ty.mk tk1 tn1 tks1) ns1 ks1)) [.int .i64 k1, .int .i64 u1, .string n1, .int .i64 tk1, .string tn1, .slice atks1 tks1.length ctks1, .slice ans1 ns1.length cns1, .slice aks1 ks1.length cks1] → Calls Tryz.prog F #[q, .agg #[.int .i64 k1, .int .i64 u1, .string n1, .int .i64 tk1, .string tn1, .slice atks1 tks1.length ctks1, .slice ans1 ns1.length cns1, .slice aks1 ks1.length cks1]] W fun e w' => e = .returned (.bool (p (Tm.mk k1 u1 n1 (Ty.mk tk1 tn1 tks1) ns1 ks1))) ∧ Below W.heap.size W w'
theorem anyTb_clo (F : FuncId) (q : Value) (p : Tm → Bool) (Ok : Tm → Prop) (Good : World → Prop) (hk : ∀ w w', Below w.heap.size w w' → Good w → Good w') (N : Nat)
    (ih : ∀ (k1 : Int) (u1 : Int) (n1 : ByteArray) (tk1 : Int) (tn1 : ByteArray) (tks1 : List Ty) (ns1 : List ByteArray) (ks1 : List Tm) (atks1 : Option Addr) (ctks1 : Nat) (ans1 : Option Addr) (cns1 : Nat) (aks1 : Option Addr) (cks1 : Nat) (W : World), Tm.bulk (Tm.mk k1 u1 n1 (Ty.mk tk1 tn1 tks1) ns1 ks1) < N → Ok (Tm.mk k1 u1 n1 (Ty.mk tk1 tn1 tks1) ns1 ks1) → Good W → RdS W (Tm.d (Tm.mk k1 u1 n1 (Ty.mk tk1 tn1 tks1) ns1 ks1)) [.int .i64 k1, .int .i64 u1, .string n1, .int .i64 tk1, .string tn1, .slice atks1 tks1.length ctks1, .slice ans1 ns1.length cns1, .slice aks1 ks1.length cks1] → Calls Tryz.prog 36 #[.agg #[.int .i64 k1, .int .i64 u1, .string n1, .int .i64 tk1, .string tn1, .slice atks1 tks1.length ctks1, .slice ans1 ns1.length cns1, .slice aks1 ks1.length cks1], .func (.func F) #[q] #[]] W fun e w' => e = .returned (.bool (Tm.anyN p (Tm.mk k1 u1 n1 (Ty.mk tk1 tn1 tks1) ns1 ks1))) ∧ Below W.heap.size W w')
    (k1 : Int) (u1 : Int) (n1 : ByteArray) (tk1 : Int) (tn1 : ByteArray) (tks1 : List Ty) (ns1 : List ByteArray) (ks1 : List Tm) (atks1 : Option Addr) (ctks1 : Nat) (ans1 : Option Addr) (cns1 : Nat) (aks1 : Option Addr) (cks1 : Nat) (pp : Addr) (w : World) (hN : Tm.bulk (Tm.mk k1 u1 n1 (Ty.mk tk1 tn1 tks1) ns1 ks1) < N) (ho : Ok (Tm.mk k1 u1 n1 (Ty.mk tk1 tn1 tks1) ns1 ks1)) (hg : Good w) (hp : w.cell? pp = some (.func (.func F) #[q] #[])) (hr : RdS w (Tm.d (Tm.mk k1 u1 n1 (Ty.mk tk1 tn1 tks1) ns1 ks1)) [.int .i64 k1, .int .i64 u1, .string n1, .int .i64 tk1, .string tn1, .slice atks1 tks1.length ctks1, .slice ans1 ns1.length cns1, .slice aks1 ks1.length cks1]) :
    Calls Tryz.prog 72 #[.agg #[.int .i64 k1, .int .i64 u1, .string n1, .int .i64 tk1, .string tn1, .slice atks1 tks1.length ctks1, .slice ans1 ns1.length cns1, .slice aks1 ks1.length cks1], .pointer (some pp)] w fun e w' => e = .returned (.bool (Tm.anyN p (Tm.mk k1 u1 n1 (Ty.mk tk1 tn1 tks1) ns1 ks1))) ∧ Below w.heap.size w w' := by
  have hB := (Below.refl w.heap.size w).alloc (Nat.le_refl _) (.cells #[.int .i64 k1, .int .i64 u1, .string n1, .int .i64 tk1, .string tn1, .slice atks1 tks1.length ctks1, .slice ans1 ns1.length cns1, .slice aks1 ks1.length cks1] 63)
  have HC := hid (ih k1 u1 n1 tk1 tn1 tks1 ns1 ks1 atks1 ctks1 ans1 cns1 aks1 cks1 _ hN ho (hk _ _ hB hg) (hr.below hB))
  have hp' := (hB.cell (p := pp) (World.block_lt_of_cell? _ _ hp)).trans hp
  have HB := hid hB
  clear hB hr ih hp hk hg
  go_enter Tryz.func72, Tryz.ntmps72
  go_wp2_with fail
  refine HC.out.mono ?_
  rintro e w1 ⟨rfl, hb⟩
  have HB1 := hid (HB.out.trans (hb.mono HB.out.size))
  clear hb
  go_wp2_with fail
  go_ret
  exact ⟨rfl, HB1.out⟩
set_option maxRecDepth 100000 in
theorem anyTb_step (F : FuncId) (eF : ∀ args (w : World), (callFunc F args).run Tryz.prog w = .ok (.enter F args) w) (q : Value) (p : Tm → Bool) (Ok : Tm → Prop) (Good : World → Prop) (hOk : ∀ (k u : Int) (n : ByteArray) (t : Ty) (ns : List ByteArray) (ks : List Tm) (j : Nat) (x : Tm), Ok (.mk k u n t ns ks) → ks[j]? = some x → Ok x) (hk : ∀ w w', Below w.heap.size w w' → Good w → Good w') (M : Nat) (hF : FnTmb F q p Ok Good M) (N : Nat) (hNM : N < M)
    (ih : ∀ (k1 : Int) (u1 : Int) (n1 : ByteArray) (tk1 : Int) (tn1 : ByteArray) (tks1 : List Ty) (ns1 : List ByteArray) (ks1 : List Tm) (atks1 : Option Addr) (ctks1 : Nat) (ans1 : Option Addr) (cns1 : Nat) (aks1 : Option Addr) (cks1 : Nat) (W : World), Tm.bulk (Tm.mk k1 u1 n1 (Ty.mk tk1 tn1 tks1) ns1 ks1) < N → Ok (Tm.mk k1 u1 n1 (Ty.mk tk1 tn1 tks1) ns1 ks1) → Good W → RdS W (Tm.d (Tm.mk k1 u1 n1 (Ty.mk tk1 tn1 tks1) ns1 ks1)) [.int .i64 k1, .int .i64 u1, .string n1, .int .i64 tk1, .string tn1, .slice atks1 tks1.length ctks1, .slice ans1 ns1.length cns1, .slice aks1 ks1.length cks1] → Calls Tryz.prog 36 #[.agg #[.int .i64 k1, .int .i64 u1, .string n1, .int .i64 tk1, .string tn1, .slice atks1 tks1.length ctks1, .slice ans1 ns1.length cns1, .slice aks1 ks1.length cks1], .func (.func F) #[q] #[]] W fun e w' => e = .returned (.bool (Tm.anyN p (Tm.mk k1 u1 n1 (Ty.mk tk1 tn1 tks1) ns1 ks1))) ∧ Below W.heap.size W w') :
    ∀ (k1 : Int) (u1 : Int) (n1 : ByteArray) (tk1 : Int) (tn1 : ByteArray) (tks1 : List Ty) (ns1 : List ByteArray) (ks1 : List Tm) (atks1 : Option Addr) (ctks1 : Nat) (ans1 : Option Addr) (cns1 : Nat) (aks1 : Option Addr) (cks1 : Nat) (w : World), Tm.bulk (Tm.mk k1 u1 n1 (Ty.mk tk1 tn1 tks1) ns1 ks1) < N + 1 → Ok (Tm.mk k1 u1 n1 (Ty.mk tk1 tn1 tks1) ns1 ks1) → Good w → RdS w (Tm.d (Tm.mk k1 u1 n1 (Ty.mk tk1 tn1 tks1) ns1 ks1)) [.int .i64 k1, .int .i64 u1, .string n1, .int .i64 tk1, .string tn1, .slice atks1 tks1.length ctks1, .slice ans1 ns1.length cns1, .slice aks1 ks1.length cks1] → Calls Tryz.prog 36 #[.agg #[.int .i64 k1, .int .i64 u1, .string n1, .int .i64 tk1, .string tn1, .slice atks1 tks1.length ctks1, .slice ans1 ns1.length cns1, .slice aks1 ks1.length cks1], .func (.func F) #[q] #[]] w fun e w' => e = .returned (.bool (Tm.anyN p (Tm.mk k1 u1 n1 (Ty.mk tk1 tn1 tks1) ns1 ks1))) ∧ Below w.heap.size w w' := by
  intro k1 u1 n1 tk1 tn1 tks1 ns1 ks1 atks1 ctks1 ans1 cns1 aks1 cks1 w hN ho hg hr
  have hbk : Tm.bulk (Tm.mk k1 u1 n1 (Ty.mk tk1 tn1 tks1) ns1 ks1) = n1.size + Ty.bulk (Ty.mk tk1 tn1 tks1) + Sr.bulks ns1 + Tm.bulks ks1 := rfl
  have HE := hid (show Tm.anyN p (Tm.mk k1 u1 n1 (Ty.mk tk1 tn1 tks1) ns1 ks1) = (p (Tm.mk k1 u1 n1 (Ty.mk tk1 tn1 tks1) ns1 ks1) || Tm.anyNs p ks1) from by rw [Tm.anyN])
  have HX0 := hid (((Boxes.nil w).alloc #[.int .i64 k1, .int .i64 u1, .string n1, .int .i64 tk1, .string tn1, .slice atks1 tks1.length ctks1, .slice ans1 ns1.length cns1, .slice aks1 ks1.length cks1] 63 (0, 0)).alloc #[.func (.func F) #[q] #[]] 68 (0, 0))
  have hB : Below w.heap.size w ((w.alloc (.cells #[.int .i64 k1, .int .i64 u1, .string n1, .int .i64 tk1, .string tn1, .slice atks1 tks1.length ctks1, .slice ans1 ns1.length cns1, .slice aks1 ks1.length cks1] 63)).alloc (.cells #[.func (.func F) #[q] #[]] 68)) := ((Below.refl _ _).alloc (Nat.le_refl _) _).alloc (by simp) _
  have hc := fun W (hW : Below w.heap.size w W) (hp : W.cell? ⟨w.heap.size + 1, 0, none⟩ = some (.func (.func F) #[q] #[])) =>
    contains_Tm_1 72 Tryz.call72 (.pointer (some ⟨w.heap.size + 1, 0, none⟩)) (Tm.anyN p) (fun V => Good V ∧ V.cell? ⟨w.heap.size + 1, 0, none⟩ = some (.func (.func F) #[q] #[]))
      (fun a b hab ⟨h1, h2⟩ => ⟨hk a b hab h1, (hab.cell (p := ⟨w.heap.size + 1, 0, none⟩) (World.block_lt_of_cell? _ _ h2)).trans h2⟩) ks1 aks1 cks1 W ⟨hk _ _ hW hg, hp⟩ (hr.fTm.2.2.2.2.2.below hW)
      (fun k3 u3 n3 tk3 tn3 tks3 ns3 ks3 atks3 ctks3 ans3 cns3 aks3 cks3 j V hj hV hrv => anyTb_clo F q p Ok Good hk N ih k3 u3 n3 tk3 tn3 tks3 ns3 ks3 atks3 ctks3 ans3 cns3 aks3 cks3 _ V (by have := Tm.bulk_get ks1 j _ hj; omega) (hOk _ _ _ _ _ _ _ _ ho hj) hV.1 hV.2 hrv)
  have hv := hF k1 u1 n1 tk1 tn1 tks1 ns1 ks1 atks1 ctks1 ans1 cns1 aks1 cks1 ((w.alloc (.cells #[.int .i64 k1, .int .i64 u1, .string n1, .int .i64 tk1, .string tn1, .slice atks1 tks1.length ctks1, .slice ans1 ns1.length cns1, .slice aks1 ks1.length cks1] 63)).alloc (.cells #[.func (.func F) #[q] #[]] 68)) (by omega) ho (hk _ _ hB hg) (hr.below hB)
  have HB := hid hB
  rw [Tm.anyNs_any] at hc
  have HC := hid hc
  clear hc hr hB ih hbk hN hF hk hg hNM ho hOk
  by_cases hq : p (Tm.mk k1 u1 n1 (Ty.mk tk1 tn1 tks1) ns1 ks1) = true
  case pos =>
    rw [hq] at hv
    have HV := hid hv
    have HQ := hid hq
    clear hv hq HC
    go_enter Tryz.func36, Tryz.ntmps36
    go_wp2_with fail
    refine HV.out.mono ?_
    rintro e w1 ⟨rfl, hb⟩
    have HB1 := hid (HB.out.trans (hb.mono HB.out.size))
    clear hb
    go_wp2_with fail
    go_ret
    exact ⟨ret_bool (by rw [HE.out, HQ.out]; rfl), HB1.out⟩
  case neg =>
    replace hq := (Bool.not_eq_true _).mp hq
    rw [hq] at hv
    have HV := hid hv
    have HQ := hid hq
    clear hv hq
    go_enter Tryz.func36, Tryz.ntmps36
    go_wp2_with fail
    refine HV.out.mono ?_
    rintro e w1 ⟨rfl, hb⟩
    have HB1 := hid (HB.out.trans (hb.mono HB.out.size))
    have HX1 := hid (HX0.out.below hb)
    have g3 := HX1.out.at 1 7 rfl rfl
    have gf := HX1.out.at 0 0 rfl rfl
    simp only [World.size_alloc] at gf
    have GF := hid gf
    clear hb gf
    go_wp2_with fail
    refine (HC.out _ HB1.out GF.out).mono ?_
    rintro e w2 ⟨rfl, hb⟩
    have HB2 := hid (HB1.out.trans (hb.mono HB1.out.size))
    clear hb
    go_wp2_with fail
    go_ret
    exact ⟨ret_bool (by rw [HE.out, HQ.out]; rfl), HB2.out⟩
theorem anyTb_all (F : FuncId) (eF : ∀ args (w : World), (callFunc F args).run Tryz.prog w = .ok (.enter F args) w) (q : Value) (p : Tm → Bool) (Ok : Tm → Prop) (Good : World → Prop) (hOk : ∀ (k u : Int) (n : ByteArray) (t : Ty) (ns : List ByteArray) (ks : List Tm) (j : Nat) (x : Tm), Ok (.mk k u n t ns ks) → ks[j]? = some x → Ok x) (hk : ∀ w w', Below w.heap.size w w' → Good w → Good w') (M : Nat) (hF : FnTmb F q p Ok Good M) : ∀ N, N ≤ M →
    ∀ (k1 : Int) (u1 : Int) (n1 : ByteArray) (tk1 : Int) (tn1 : ByteArray) (tks1 : List Ty) (ns1 : List ByteArray) (ks1 : List Tm) (atks1 : Option Addr) (ctks1 : Nat) (ans1 : Option Addr) (cns1 : Nat) (aks1 : Option Addr) (cks1 : Nat) (W : World), Tm.bulk (Tm.mk k1 u1 n1 (Ty.mk tk1 tn1 tks1) ns1 ks1) < N → Ok (Tm.mk k1 u1 n1 (Ty.mk tk1 tn1 tks1) ns1 ks1) → Good W → RdS W (Tm.d (Tm.mk k1 u1 n1 (Ty.mk tk1 tn1 tks1) ns1 ks1)) [.int .i64 k1, .int .i64 u1, .string n1, .int .i64 tk1, .string tn1, .slice atks1 tks1.length ctks1, .slice ans1 ns1.length cns1, .slice aks1 ks1.length cks1] → Calls Tryz.prog 36 #[.agg #[.int .i64 k1, .int .i64 u1, .string n1, .int .i64 tk1, .string tn1, .slice atks1 tks1.length ctks1, .slice ans1 ns1.length cns1, .slice aks1 ks1.length cks1], .func (.func F) #[q] #[]] W fun e w' => e = .returned (.bool (Tm.anyN p (Tm.mk k1 u1 n1 (Ty.mk tk1 tn1 tks1) ns1 ks1))) ∧ Below W.heap.size W w'
  | 0, _ => fun _ _ _ _ _ _ _ _ _ _ _ _ _ _ _  h => absurd h (by omega)
  | N + 1, h => anyTb_step F eF q p Ok Good hOk hk M hF N (by omega) (anyTb_all F eF q p Ok Good hOk hk M hF N (by omega))
end Go.Proofs.YtgpefnlpbjnjbaaGreat

namespace Go.Proofs.YtgpefnlpbjnjbaaGreat
open Go.ChangeShapes Go.WideShapes Go.ChangeAt Go.RowKit
set_option linter.unusedVariables false

theorem spec_l03Ok (k1 : Int) (u1 : Int) (n1 : ByteArray) (tk1 : Int) (tn1 : ByteArray) (tks1 : List Ty) (ns1 : List ByteArray) (ks1 : List Tm) (atks1 : Option Addr) (ctks1 : Nat) (ans1 : Option Addr) (cns1 : Nat) (aks1 : Option Addr) (cks1 : Nat) (b1 o1 : Nat) (w : World) (hM : Tm.bulk (Tm.mk k1 u1 n1 (Ty.mk tk1 tn1 tks1) ns1 ks1) ≤ 1048576)
    (x0 : w.cell? ⟨b1, o1, none⟩ = some (.int .i64 k1)) (x1 : w.cell? ⟨b1, o1 + 1, none⟩ = some (.int .i64 u1)) (x2 : w.cell? ⟨b1, o1 + 2, none⟩ = some (.string n1)) (x3 : w.cell? ⟨b1, o1 + 3, none⟩ = some (.int .i64 tk1)) (x4 : w.cell? ⟨b1, o1 + 4, none⟩ = some (.string tn1)) (x5 : w.cell? ⟨b1, o1 + 5, none⟩ = some (.slice atks1 tks1.length ctks1)) (x6 : w.cell? ⟨b1, o1 + 6, none⟩ = some (.slice ans1 ns1.length cns1)) (x7 : w.cell? ⟨b1, o1 + 7, none⟩ = some (.slice aks1 ks1.length cks1))
    (hr : RdS w (Tm.d (Tm.mk k1 u1 n1 (Ty.mk tk1 tn1 tks1) ns1 ks1)) [.int .i64 k1, .int .i64 u1, .string n1, .int .i64 tk1, .string tn1, .slice atks1 tks1.length ctks1, .slice ans1 ns1.length cns1, .slice aks1 ks1.length cks1]) :
    Calls Tryz.prog 83 #[.pointer (some ⟨b1, o1, none⟩)] w fun e w' => e = .returned (.bool (Tm.ok (Tm.mk k1 u1 n1 (Ty.mk tk1 tn1 tks1) ns1 ks1))) ∧ Below w.heap.size w w' := by
  have hc := spec_l03Nodes k1 u1 n1 tk1 tn1 tks1 ns1 ks1 atks1 ctks1 ans1 cns1 aks1 cks1 b1 o1 false 24 160 w hM (by omega) (by omega) (by omega) (by omega) x0 x1 x2 x3 x4 x5 x6 x7 hr
  have HO := hid (Tm.nodes_ok (Tm.mk k1 u1 n1 (Ty.mk tk1 tn1 tks1) ns1 ks1))
  generalize Tm.nodes false (Tm.mk k1 u1 n1 (Ty.mk tk1 tn1 tks1) ns1 ks1) 24 160 = n at hc HO
  have HC := hid hc
  clear hc hr x0 x1 x2 x3 x4 x5 x6 x7
  go_enter Tryz.func83, Tryz.ntmps83
  go_wp2_with fail
  refine HC.out.mono ?_
  rintro e w1 ⟨rfl, hb⟩
  go_wp2_with fail
  go_ret
  exact ⟨ret_bool HO.out, hb⟩

def tmSize (t : Tm) : Int := if Tm.ok t then (Tm.cnt t : Int) else 0
end Go.Proofs.YtgpefnlpbjnjbaaGreat

namespace Go.Proofs.YtgpefnlpbjnjbaaGreat
open Go.ChangeShapes Go.WideShapes Go.ChangeAt Go.RowKit Go.BigFrame
open Go.Sort (grow)
set_option linter.unusedVariables false

/-- A list of names lies in a slice. -/
def StrsL (w : World) (ns : List ByteArray) (v : Value) : Prop := ∃ (a : Option Addr) (c : Nat), v = .slice a ns.length c ∧ ns.length ≤ c ∧ c ≤ 9223372036854775807 ∧ (0 < ns.length → ∃ b o, a = some ⟨b, o, none⟩ ∧ b < w.heap.size ∧ ∀ (i : Nat) (s : ByteArray), ns[i]? = some s → w.cell? ⟨b, o + i, none⟩ = some (.string s))
theorem StrsL.of_rd {w : World} {ns : List ByteArray} {v : Value} (h : RdL w (Sr.ds ns) v) : StrsL w ns v := by
  obtain ⟨a, c, e, h2, h3, h4⟩ := h.eSr
  refine ⟨a, c, e, h2, h3, fun hp => ?_⟩
  obtain ⟨b, o, e, hl, hc⟩ := h4 hp
  exact ⟨b, o, e, hl, fun i s hi => (hc i s hi).1⟩
theorem StrsL.below {w w' : World} {ns : List ByteArray} {v : Value} (h : StrsL w ns v) (hb : Below w.heap.size w w') : StrsL w' ns v := by
  obtain ⟨a, c, e, h2, h3, h4⟩ := h
  refine ⟨a, c, e, h2, h3, fun hp => ?_⟩
  obtain ⟨b, o, e, hl, hc⟩ := h4 hp
  exact ⟨b, o, e, Nat.lt_of_lt_of_le hl hb.size, fun i s hi => (hb.cell (p := ⟨b, o + i, none⟩) hl).trans (hc i s hi)⟩
theorem StrsL.nil (w : World) : StrsL w [] (.slice none 0 0) := ⟨none, 0, rfl, by simp, by omega, fun h => by simp at h⟩
theorem StrsL.one (w : World) (s : ByteArray) (t : TypeId) : StrsL (w.alloc (.cells #[.string s] t)) [s] (.slice (some ⟨w.heap.size, 0, none⟩) 1 1) :=
  ⟨_, 1, rfl, by simp, by omega, fun _ => ⟨w.heap.size, 0, rfl, by simp, fun i u hi => by
    match i, hi with
    | 0, hi => simp at hi; subst hi; exact one_new w (.string s) t 0 _ rfl
    | i + 1, hi => simp at hi⟩⟩
theorem idx_L (ns : List ByteArray) (v : Value) (s : ByteArray) (w : World) (h : StrsL w ns v) :
    Calls Tryz.prog 162 #[v, .string s] w fun e w' => e = .returned (.int .i64 (idxFrom s 0 ns)) ∧ w = w' := by
  obtain ⟨a, c, rfl, h2, h3, h4⟩ := h
  have hlen : ns.length ≤ 9223372036854775807 := Nat.le_trans h2 h3
  have H4 := hid h4
  clear h4
  go_enter Tryz.func162, Tryz.ntmps162
  go_wp2_with fail
  go_loopw [5, 8] (fun u i wr => ∃ k : Nat, k ≤ ns.length ∧ i = .int .i64 k ∧ Hid (∀ (j : Nat) t, j < k → ns[j]? = some t → t ≠ s) ∧ w = wr) (fun _ i _ => ns.length - (intOf i).toNat)
  case atStart => exact ⟨0, Nat.zero_le _, rfl, fun j t hj => absurd hj (by omega), rfl⟩
  case round =>
    obtain ⟨k, hk, rfl, HN, rfl⟩ := hrel
    by_cases hlt : k < ns.length
    · obtain ⟨b, o, rfl, hbl, hall⟩ := H4.out (by omega)
      obtain ⟨t, ht⟩ : ∃ t, ns[k]? = some t := ⟨_, List.getElem?_eq_getElem hlt⟩
      have hc := hall k t ht
      have HT := hid ht
      clear ht hall H4
      by_cases he : s = t
      · have hb := bytes_eq he
        have HE := hid he
        clear he
        go_wp2_with fail
        go_ret
        refine ⟨ret_int ?_, rfl⟩
        rw [idxFrom_at s 0 k ns HN.out (by rw [HT.out, HE.out])]
        simp
      · have hb := bytes_ne he
        have HE := hid he
        clear he
        go_wp2_with fail
        go_roundw
        case rel =>
          refine ⟨k + 1, by omega, by go_num, fun j u hj hu => ?_, by first | rfl | trivial⟩
          rcases Nat.lt_succ_iff_lt_or_eq.1 hj with hj' | rfl
          · exact HN.out j u hj' hu
          · have e : u = t := Option.some.inj (hu.symm.trans HT.out)
            subst e
            exact fun e => HE.out e.symm
        case measure => simp [intOf]; omega
    · go_wp2_with fail
      go_ret
      refine ⟨ret_int ?_, rfl⟩
      rw [idxFrom_none s 0 ns fun j t hj => HN.out j t (by have := (List.getElem?_eq_some_iff.1 hj).1; omega) hj]
theorem has_L (ns : List ByteArray) (v : Value) (s : ByteArray) (w : World) (h : StrsL w ns v) :
    Calls Tryz.prog 135 #[v, .string s] w fun e w' => e = .returned (.bool (hasStr ns s)) ∧ w = w' := by
  have HC := hid (idx_L ns v s w h)
  obtain ⟨a, c, rfl, -⟩ := h
  have HR := hid (show hasStr ns s = decide (0 ≤ idxFrom s 0 ns) from rfl)
  generalize idxFrom s 0 ns = r at HC HR
  generalize hasStr ns s = bb at HR ⊢
  go_enter Tryz.func135, Tryz.ntmps135
  go_wp2_with fail
  refine HC.out.mono ?_
  rintro e w1 ⟨rfl, rfl⟩
  go_wp2_with fail
  go_ret
  exact ⟨ret_bool HR.out.symm, rfl⟩
theorem last_L (ns : List ByteArray) (v : Value) (s : ByteArray) (w : World) (h : StrsL w ns v) :
    Calls Tryz.prog 84 #[v, .string s] w fun e w' => e = .returned (.int .i64 (lastAt s ns)) ∧ w = w' := by
  obtain ⟨a, c, rfl, h2, h3, h4⟩ := h
  have hlen : ns.length ≤ 9223372036854775807 := Nat.le_trans h2 h3
  have H4 := hid h4
  clear h4 h2 h3
  go_enter Tryz.func84, Tryz.ntmps84
  go_wp2_with fail
  go_loopw [5] (fun i wr => ∃ (j : Nat) (x : Int), j ≤ ns.length ∧ x = (j : Int) - 1 ∧ i = .int .i64 x ∧ Hid (∀ (i : Nat) t, j ≤ i → ns[i]? = some t → t ≠ s) ∧ w = wr) (fun i _ => (intOf i + 1).toNat)
  case atStart => exact ⟨ns.length, (ns.length : Int) - 1, by omega, rfl, by go_num, fun i t hi hti => absurd (List.getElem?_eq_some_iff.1 hti).1 (by omega), rfl⟩
  case round =>
    obtain ⟨j, x, hj, hx, rfl, HJ, rfl⟩ := hrel
    rcases j with _ | m
    · obtain rfl : x = -1 := by simpa using hx
      clear hx
      go_wp2_with fail
      go_ret
      exact ⟨ret_int (by rw [lastAt_no s ns fun i t hti => HJ.out i t (by omega) hti]), rfl⟩
    · obtain rfl : x = (m : Int) := by omega
      clear hx
      have hlt : m < ns.length := by omega
      obtain ⟨b, o, rfl, hbl, hall⟩ := H4.out (by omega)
      obtain ⟨t, ht⟩ : ∃ t, ns[m]? = some t := ⟨_, List.getElem?_eq_getElem hlt⟩
      have c0 := hall m t ht
      clear hall H4
      have HT := hid ht
      by_cases hq : t = s
      · have hb := bytes_eq hq
        have HQ := hid hq
        clear hq ht
        go_wp2_with fail
        go_ret
        exact ⟨ret_int (by rw [lastAt_yes s ns m (by rw [HT.out, HQ.out]) fun i t hi hti => HJ.out i t hi hti]), rfl⟩
      · have hb := bytes_ne hq
        have HQ := hid hq
        clear hq ht
        go_wp2_with fail
        go_roundw
        case rel => exact ⟨m, (m : Int) - 1, by omega, rfl, by go_num, fun i t hi hti => (Nat.eq_or_lt_of_le hi).elim (fun he => by subst he; obtain rfl := Option.some.inj (hti.symm.trans HT.out); exact HQ.out) (fun hi => HJ.out i t hi hti), by first | rfl | trivial⟩
        case measure => simp [intOf]
theorem spec_binds (k1 : Int) (n1 : ByteArray) (ns1 : List ByteArray) (ans1 : Option Addr) (cns1 : Nat) (b1 o1 : Nat) (i : Nat) (w : World) (x0 : w.cell? ⟨b1, o1, none⟩ = some (.int .i64 k1)) (x2 : w.cell? ⟨b1, o1 + 2, none⟩ = some (.string n1)) (x6 : w.cell? ⟨b1, o1 + 6, none⟩ = some (.slice ans1 ns1.length cns1)) (hr : RdL w (Sr.ds ns1) (.slice ans1 ns1.length cns1)) :
    Calls Tryz.prog 86 #[.pointer (some ⟨b1, o1, none⟩), .int .i64 i] w fun e w' => ∃ v, e = .returned v ∧ StrsL w' (boundOf k1 n1 ns1 i) v ∧ Below w.heap.size w w' := by
  have HR := hid (StrsL.of_rd hr)
  clear hr
  by_cases h4 : k1 = 4
  case pos =>
    have g4 : (k1 == 4) = true := by simp [h4]
    have HQ := hid (show boundOf k1 n1 ns1 i = [n1] by rw [boundOf, if_pos h4])
    clear h4
    go_enter Tryz.func86, Tryz.ntmps86
    go_wp2_with fail
    go_ret
    exact ⟨_, rfl, by rw [HQ.out]; exact StrsL.one _ _ _, (Below.refl _ _).alloc (by exact Nat.le_refl _) _⟩
  case neg =>
  have g4 : (k1 == 4) = false := by simp [h4]
  by_cases h7 : k1 = 7
  case pos =>
    have g7 : (k1 == 7) = true := by simp [h7]
    have g10 : (k1 == 10) = false := by simp [h7]
    by_cases hi : i = 1
    case pos =>
      have gi : ((i : Int) == 1) = true := by simp [hi]
      have HQ := hid (show boundOf k1 n1 ns1 i = [n1] by rw [boundOf, if_neg h4, if_pos h7, if_pos hi])
      clear h4 h7 hi
      go_enter Tryz.func86, Tryz.ntmps86
      go_wp2_with fail
      go_ret
      exact ⟨_, rfl, by rw [HQ.out]; exact StrsL.one _ _ _, (Below.refl _ _).alloc (by exact Nat.le_refl _) _⟩
    case neg =>
      have gi : ((i : Int) == 1) = false := by simp; omega
      have HQ := hid (show boundOf k1 n1 ns1 i = [] by rw [boundOf, if_neg h4, if_pos h7, if_neg hi])
      clear h4 h7 hi
      go_enter Tryz.func86, Tryz.ntmps86
      go_wp2_with fail
      go_ret
      exact ⟨_, rfl, by rw [HQ.out]; exact StrsL.nil _, Below.refl _ _⟩
  case neg =>
  have g7 : (k1 == 7) = false := by simp [h7]
  by_cases h10 : k1 = 10
  case pos =>
    have g10 : (k1 == 10) = true := by simp [h10]
    have HQ := hid (show boundOf k1 n1 ns1 i = ns1 by rw [boundOf, if_neg h4, if_neg h7, if_pos h10])
    clear h4 h7 h10
    go_enter Tryz.func86, Tryz.ntmps86
    go_wp2_with fail
    go_ret
    exact ⟨_, rfl, by rw [HQ.out]; exact HR.out, Below.refl _ _⟩
  case neg =>
    have g10 : (k1 == 10) = false := by simp [h10]
    have HQ := hid (show boundOf k1 n1 ns1 i = [] by rw [boundOf, if_neg h4, if_neg h7, if_neg h10])
    clear h4 h7 h10
    go_enter Tryz.func86, Tryz.ntmps86
    go_wp2_with fail
    go_ret
    exact ⟨_, rfl, by rw [HQ.out]; exact StrsL.nil _, Below.refl _ _⟩
theorem impl_bound (k1 : Int) (u1 : Int) (n1 : ByteArray) (tk1 : Int) (tn1 : ByteArray) (tks1 : List Ty) (ns1 : List ByteArray) (ks1 : List Tm) (atks1 : Option Addr) (ctks1 : Nat) (ans1 : Option Addr) (cns1 : Nat) (aks1 : Option Addr) (cks1 : Nat) (i : Nat) (w : World) (hr : RdL w (Sr.ds ns1) (.slice ans1 ns1.length cns1)) :
    Calls Tryz.prog 137 #[.agg #[.int .i64 k1, .int .i64 u1, .string n1, .int .i64 tk1, .string tn1, .slice atks1 tks1.length ctks1, .slice ans1 ns1.length cns1, .slice aks1 ks1.length cks1], .int .i64 i] w fun e w' => ∃ v, e = .returned v ∧ StrsL w' (boundOf k1 n1 ns1 i) v ∧ Below w.heap.size w w' := by
  have HB0 := hid ((Below.refl w.heap.size w).alloc (Nat.le_refl _) (.cells #[.int .i64 k1, .int .i64 u1, .string n1, .int .i64 tk1, .string tn1, .slice atks1 tks1.length ctks1, .slice ans1 ns1.length cns1, .slice aks1 ks1.length cks1] 63))
  have HR := hid (StrsL.of_rd hr)
  clear hr
  by_cases h4 : k1 = 4
  case pos =>
    have g4 : (k1 == 4) = true := by simp [h4]
    have HQ := hid (show boundOf k1 n1 ns1 i = [n1] by rw [boundOf, if_pos h4])
    clear h4
    go_enter Tryz.func137, Tryz.ntmps137
    go_wp2_with fail
    go_ret
    exact ⟨_, rfl, by rw [HQ.out]; have h := StrsL.one (w.alloc (.cells #[.int .i64 k1, .int .i64 u1, .string n1, .int .i64 tk1, .string tn1, .slice atks1 tks1.length ctks1, .slice ans1 ns1.length cns1, .slice aks1 ks1.length cks1] 63)) n1 9; rw [World.size_alloc] at h; exact h, (HB0.out).alloc (by simp) _⟩
  case neg =>
  have g4 : (k1 == 4) = false := by simp [h4]
  by_cases h7 : k1 = 7
  case pos =>
    have g7 : (k1 == 7) = true := by simp [h7]
    have g10 : (k1 == 10) = false := by simp [h7]
    by_cases hi : i = 1
    case pos =>
      have gi : ((i : Int) == 1) = true := by simp [hi]
      have HQ := hid (show boundOf k1 n1 ns1 i = [n1] by rw [boundOf, if_neg h4, if_pos h7, if_pos hi])
      clear h4 h7 hi
      go_enter Tryz.func137, Tryz.ntmps137
      go_wp2_with fail
      go_ret
      exact ⟨_, rfl, by rw [HQ.out]; have h := StrsL.one (w.alloc (.cells #[.int .i64 k1, .int .i64 u1, .string n1, .int .i64 tk1, .string tn1, .slice atks1 tks1.length ctks1, .slice ans1 ns1.length cns1, .slice aks1 ks1.length cks1] 63)) n1 9; rw [World.size_alloc] at h; exact h, (HB0.out).alloc (by simp) _⟩
    case neg =>
      have gi : ((i : Int) == 1) = false := by simp; omega
      have HQ := hid (show boundOf k1 n1 ns1 i = [] by rw [boundOf, if_neg h4, if_pos h7, if_neg hi])
      clear h4 h7 hi
      go_enter Tryz.func137, Tryz.ntmps137
      go_wp2_with fail
      go_ret
      exact ⟨_, rfl, by rw [HQ.out]; exact StrsL.nil _, HB0.out⟩
  case neg =>
  have g7 : (k1 == 7) = false := by simp [h7]
  by_cases h10 : k1 = 10
  case pos =>
    have g10 : (k1 == 10) = true := by simp [h10]
    have HQ := hid (show boundOf k1 n1 ns1 i = ns1 by rw [boundOf, if_neg h4, if_neg h7, if_pos h10])
    clear h4 h7 h10
    go_enter Tryz.func137, Tryz.ntmps137
    go_wp2_with fail
    go_ret
    exact ⟨_, rfl, by rw [HQ.out]; exact HR.out.below HB0.out, HB0.out⟩
  case neg =>
    have g10 : (k1 == 10) = false := by simp [h10]
    have HQ := hid (show boundOf k1 n1 ns1 i = [] by rw [boundOf, if_neg h4, if_neg h7, if_neg h10])
    clear h4 h7 h10
    go_enter Tryz.func137, Tryz.ntmps137
    go_wp2_with fail
    go_ret
    exact ⟨_, rfl, by rw [HQ.out]; exact StrsL.nil _, HB0.out⟩
end Go.Proofs.YtgpefnlpbjnjbaaGreat

namespace Go.Proofs.YtgpefnlpbjnjbaaGreat
open Go.ChangeShapes Go.WideShapes Go.ChangeAt Go.RowKit
set_option linter.unusedVariables false

theorem impl_ValidTerm (k1 : Int) (u1 : Int) (n1 : ByteArray) (tk1 : Int) (tn1 : ByteArray) (tks1 : List Ty) (ns1 : List ByteArray) (ks1 : List Tm) (atks1 : Option Addr) (ctks1 : Nat) (ans1 : Option Addr) (cns1 : Nat) (aks1 : Option Addr) (cks1 : Nat) (w : World) (hM : Tm.bulk (Tm.mk k1 u1 n1 (Ty.mk tk1 tn1 tks1) ns1 ks1) ≤ 1048576) (hr : RdS w (Tm.d (Tm.mk k1 u1 n1 (Ty.mk tk1 tn1 tks1) ns1 ks1)) [.int .i64 k1, .int .i64 u1, .string n1, .int .i64 tk1, .string tn1, .slice atks1 tks1.length ctks1, .slice ans1 ns1.length cns1, .slice aks1 ks1.length cks1]) :
    Calls Tryz.prog 64 #[.agg #[.int .i64 k1, .int .i64 u1, .string n1, .int .i64 tk1, .string tn1, .slice atks1 tks1.length ctks1, .slice ans1 ns1.length cns1, .slice aks1 ks1.length cks1]] w fun e w' => e = .returned (.bool (Tm.ok (Tm.mk k1 u1 n1 (Ty.mk tk1 tn1 tks1) ns1 ks1))) ∧ Below w.heap.size w w' := by
  have hB := (Below.refl w.heap.size w).alloc (Nat.le_refl _) (.cells #[.int .i64 k1, .int .i64 u1, .string n1, .int .i64 tk1, .string tn1, .slice atks1 tks1.length ctks1, .slice ans1 ns1.length cns1, .slice aks1 ks1.length cks1] 63)
  have hc := impl_termShape k1 u1 n1 tk1 tn1 tks1 ns1 ks1 atks1 ctks1 ans1 cns1 aks1 cks1 (w.alloc (.cells #[.int .i64 k1, .int .i64 u1, .string n1, .int .i64 tk1, .string tn1, .slice atks1 tks1.length ctks1, .slice ans1 ns1.length cns1, .slice aks1 ks1.length cks1] 63)) hM (hr.below hB)
  have HX0 := hid ((Boxes.nil w).alloc #[.int .i64 k1, .int .i64 u1, .string n1, .int .i64 tk1, .string tn1, .slice atks1 tks1.length ctks1, .slice ans1 ns1.length cns1, .slice aks1 ks1.length cks1] 63 (0, 0))
  have HB0 := hid hB
  have HE := hid (show Tm.ok (Tm.mk k1 u1 n1 (Ty.mk tk1 tn1 tks1) ns1 ks1) = (Tm.good (Tm.mk k1 u1 n1 (Ty.mk tk1 tn1 tks1) ns1 ks1) && (!(k1 == 10) && (decide (Tm.dep (Tm.mk k1 u1 n1 (Ty.mk tk1 tn1 tks1) ns1 ks1) ≤ 24) && decide (Tm.cnt (Tm.mk k1 u1 n1 (Ty.mk tk1 tn1 tks1) ns1 ks1) ≤ 160)))) by rw [Tm.ok, Tm.isCase_mk])
  have hcl := Tm.cnt_le (Tm.mk k1 u1 n1 (Ty.mk tk1 tn1 tks1) ns1 ks1)
  have hdl := Tm.dep_le (Tm.mk k1 u1 n1 (Ty.mk tk1 tn1 tks1) ns1 ks1)
  by_cases hg : Tm.good (Tm.mk k1 u1 n1 (Ty.mk tk1 tn1 tks1) ns1 ks1) = true
  case neg =>
    rw [tmShapeV_no hg] at hc
    have HF := hid (show Tm.ok (Tm.mk k1 u1 n1 (Ty.mk tk1 tn1 tks1) ns1 ks1) = false by rw [HE.out, (Bool.not_eq_true _).mp hg]; rfl)
    have HC := hid hc
    clear hc hg hM hr hB HE hcl hdl
    go_enter Tryz.func64, Tryz.ntmps64
    go_wp2_with fail
    refine HC.out.mono ?_
    rintro e w1 ⟨rfl, hb⟩
    have HB1 := hid (HB0.out.trans (hb.mono HB0.out.size))
    clear hb
    go_wp2_with fail
    go_ret
    exact ⟨ret_bool HF.out.symm, HB1.out⟩
  case pos =>
    rw [tmShapeV_yes hg] at hc
    have HF := hid (show Tm.ok (Tm.mk k1 u1 n1 (Ty.mk tk1 tn1 tks1) ns1 ks1) = (!(k1 == 10) && (decide (Tm.dep (Tm.mk k1 u1 n1 (Ty.mk tk1 tn1 tks1) ns1 ks1) ≤ 24) && decide (Tm.cnt (Tm.mk k1 u1 n1 (Ty.mk tk1 tn1 tks1) ns1 ks1) ≤ 160))) by rw [HE.out, hg]; rfl)
    generalize Tm.dep (Tm.mk k1 u1 n1 (Ty.mk tk1 tn1 tks1) ns1 ks1) = dd at hc HF hdl
    generalize Tm.cnt (Tm.mk k1 u1 n1 (Ty.mk tk1 tn1 tks1) ns1 ks1) = cc at hc HF hdl hcl
    have HC := hid hc
    clear hc hg hM hr hB HE hcl hdl
    by_cases hk : k1 = 10
    case pos =>
      have g10 : (k1 != 10) = false := by simp [hk]
      have HG := hid (show Tm.ok (Tm.mk k1 u1 n1 (Ty.mk tk1 tn1 tks1) ns1 ks1) = false by rw [HF.out]; simp [hk])
      clear hk
      go_enter Tryz.func64, Tryz.ntmps64
      go_wp2_with fail
      refine HC.out.mono ?_
      rintro e w1 ⟨rfl, hb⟩
      have HB1 := hid (HB0.out.trans (hb.mono HB0.out.size))
      have g0 := (HX0.out.below hb).at 0 0 rfl rfl
      clear hb
      go_wp2_with fail
      go_ret
      exact ⟨ret_bool HG.out.symm, HB1.out⟩
    case neg =>
      have g10 : (k1 != 10) = true := by simp [hk]
      by_cases hd : dd ≤ 24
      case neg =>
        have gd : decide ((dd : Int) ≤ 24) = false := decide_eq_false (by omega)
        have HG := hid (show Tm.ok (Tm.mk k1 u1 n1 (Ty.mk tk1 tn1 tks1) ns1 ks1) = false by rw [HF.out]; simp [hd])
        clear hk hd
        go_enter Tryz.func64, Tryz.ntmps64
        go_wp2_with fail
        refine HC.out.mono ?_
        rintro e w1 ⟨rfl, hb⟩
        have HB1 := hid (HB0.out.trans (hb.mono HB0.out.size))
        have g0 := (HX0.out.below hb).at 0 0 rfl rfl
        clear hb
        go_wp2_with fail
        go_ret
        exact ⟨ret_bool HG.out.symm, HB1.out⟩
      case pos =>
        have gd : decide ((dd : Int) ≤ 24) = true := decide_eq_true (by omega)
        by_cases hc : cc ≤ 160
        case neg =>
          have gc : decide ((cc : Int) ≤ 160) = false := decide_eq_false (by omega)
          have HG := hid (show Tm.ok (Tm.mk k1 u1 n1 (Ty.mk tk1 tn1 tks1) ns1 ks1) = false by rw [HF.out]; simp [hc])
          clear hk hd hc
          go_enter Tryz.func64, Tryz.ntmps64
          go_wp2_with fail
          refine HC.out.mono ?_
          rintro e w1 ⟨rfl, hb⟩
          have HB1 := hid (HB0.out.trans (hb.mono HB0.out.size))
          have g0 := (HX0.out.below hb).at 0 0 rfl rfl
          clear hb
          go_wp2_with fail
          go_ret
          exact ⟨ret_bool HG.out.symm, HB1.out⟩
        case pos =>
          have gc : decide ((cc : Int) ≤ 160) = true := decide_eq_true (by omega)
          have HG := hid (show Tm.ok (Tm.mk k1 u1 n1 (Ty.mk tk1 tn1 tks1) ns1 ks1) = true by rw [HF.out]; simp [hc, hd, hk])
          clear hk hd hc
          go_enter Tryz.func64, Tryz.ntmps64
          go_wp2_with fail
          refine HC.out.mono ?_
          rintro e w1 ⟨rfl, hb⟩
          have HB1 := hid (HB0.out.trans (hb.mono HB0.out.size))
          have g0 := (HX0.out.below hb).at 0 0 rfl rfl
          clear hb
          go_wp2_with fail
          go_ret
          exact ⟨ret_bool HG.out.symm, HB1.out⟩
end Go.Proofs.YtgpefnlpbjnjbaaGreat

namespace Go.Proofs.YtgpefnlpbjnjbaaGreat
open Go.ChangeShapes Go.WideShapes Go.ChangeAt Go.RowKit Go.BigFrame
open Go.Sort (grow)
set_option linter.unusedVariables false

set_option maxRecDepth 100000 in
set_option maxHeartbeats 4000000 in
theorem impl_ValidProgram (ds1 : List Dat) (fs1 : List Df) (ads1 : Option Addr) (cds1 : Nat) (afs1 : Option Addr) (cfs1 : Nat) (w : World) (hM : Pg.bulk (Pg.mk ds1 fs1) ≤ 1048576) (hr : RdS w (Pg.d (Pg.mk ds1 fs1)) [.slice ads1 ds1.length cds1, .slice afs1 fs1.length cfs1]) :
    Calls Tryz.prog 32 #[.agg #[.slice ads1 ds1.length cds1, .slice afs1 fs1.length cfs1]] w fun e w' => e = .returned (.bool (progOk ds1 fs1)) ∧ Below w.heap.size w w' := by
  have hlen := Df.bulks_length fs1
  have hfl := hr.fPg.2
  have hdl := hr.fPg.1
  have hMd : Dat.bulks ds1 ≤ 1048576 := by simp only [Pg.bulk] at hM; omega
  have hMf : Df.bulks fs1 ≤ 1048576 := by simp only [Pg.bulk] at hM; omega
  have HFL := hid hfl
  have HMF := hid hMf
  obtain ⟨_, _, e, h2, h3, h4⟩ := hfl.eDf
  simp only [Value.slice.injEq, true_and] at e
  obtain ⟨rfl, rfl⟩ := e
  have H4 := hid h4
  have hlk : fs1.length ≤ 1048576 := by omega
  have hB := (Below.refl w.heap.size w).alloc (Nat.le_refl _) (.cells #[.slice ads1 ds1.length cds1, .slice afs1 fs1.length cfs1] 32)
  have HB0 := hid hB
  have HX0 := hid ((Boxes.nil w).alloc #[.slice ads1 ds1.length cds1, .slice afs1 fs1.length cfs1] 32 (0, 0))
  have hd := impl_ValidDatas ds1 ads1 cds1 (w.alloc (.cells #[.slice ads1 ds1.length cds1, .slice afs1 fs1.length cfs1] 32)) hMd (hdl.below hB)
  clear hr hfl hdl hM hMd hMf h4 h2 h3 hlen hB
  by_cases hdo : datasOk ds1 = true
  case neg =>
    have HF := hid (show progOk ds1 fs1 = false by simp [progOk, hdo])
    rw [(Bool.not_eq_true _).mp hdo] at hd
    have HD := hid hd
    clear hd hdo
    go_enter Tryz.func32, Tryz.ntmps32
    go_wp2_with fail
    refine HD.out.mono ?_
    rintro e w1 ⟨rfl, hb⟩
    have HB1 := hid (HB0.out.trans (hb.mono HB0.out.size))
    clear hb
    go_wp2_with fail
    go_ret
    exact ⟨ret_bool HF.out.symm, HB1.out⟩
  case pos =>
  have HF0 := hid (show progOk ds1 fs1 = (inR fs1.length 1 8 && dfsOk fs1 fs1 0) by rw [progOk, hdo]; rfl)
  rw [hdo] at hd
  have HD := hid hd
  clear hd hdo
  by_cases hl1 : fs1.length < 1
  case pos =>
    have HF := hid (show progOk ds1 fs1 = false by rw [HF0.out, inR_f (by omega)]; rfl)
    have g1 : decide ((fs1.length : Int) < 1) = true := decide_eq_true (by omega)
    clear hl1
    go_enter Tryz.func32, Tryz.ntmps32
    go_wp2_with fail
    refine HD.out.mono ?_
    rintro e w1 ⟨rfl, hb⟩
    have HB1 := hid (HB0.out.trans (hb.mono HB0.out.size))
    have x1 := (HX0.out.below hb).at 0 1 rfl rfl
    clear hb
    go_wp2_with fail
    go_ret
    exact ⟨ret_bool HF.out.symm, HB1.out⟩
  case neg =>
  have g1 : decide ((fs1.length : Int) < 1) = false := decide_eq_false (by omega)
  by_cases hl8 : 8 < fs1.length
  case pos =>
    have HF := hid (show progOk ds1 fs1 = false by rw [HF0.out, inR_f (by omega)]; rfl)
    have g8 : decide ((8 : Int) < (fs1.length : Int)) = true := decide_eq_true (by omega)
    clear hl8 hl1
    go_enter Tryz.func32, Tryz.ntmps32
    go_wp2_with fail
    refine HD.out.mono ?_
    rintro e w1 ⟨rfl, hb⟩
    have HB1 := hid (HB0.out.trans (hb.mono HB0.out.size))
    have x1 := (HX0.out.below hb).at 0 1 rfl rfl
    clear hb
    go_wp2_with fail
    go_ret
    exact ⟨ret_bool HF.out.symm, HB1.out⟩
  case neg =>
  have g8 : decide ((8 : Int) < (fs1.length : Int)) = false := decide_eq_false (by omega)
  have HF := hid (show progOk ds1 fs1 = dfsOk fs1 fs1 0 by rw [HF0.out, inR_t (by omega) (by omega)]; rfl)
  clear hl1 hl8
  go_enter Tryz.func32, Tryz.ntmps32
  go_wp2_with fail
  refine HD.out.mono ?_
  rintro e w1 ⟨rfl, hb⟩
  have HB1 := hid (HB0.out.trans (hb.mono HB0.out.size))
  have HX1 := hid (HX0.out.below hb)
  have x1 := HX1.out.at 0 1 rfl rfl
  clear hb HD
  go_wp2_with fail
  clear x1
  go_loopw [24] (fun i wr => ∃ (j : Nat), j ≤ fs1.length ∧ i = .int .i64 j ∧ Hid (∀ (i : Nat) t, i < j → fs1[i]? = some t → dfOk fs1 i t = true) ∧ Below w1.heap.size w1 wr) (fun i _ => fs1.length - (intOf i).toNat)
  case atStart => exact ⟨0, by omega, rfl, fun i t hi => absurd hi (by omega), Below.refl _ _⟩
  case round =>
    obtain ⟨j, hj, rfl, HJ, hb0⟩ := hrel
    by_cases hlt : j < fs1.length
    case neg =>
      go_wp2_with fail
      go_ret
      exact ⟨ret_bool (by rw [HF.out, dfsOk_yes fs1 fs1 0 fun i t hti => by rw [Nat.zero_add]; exact HJ.out i t (by have := (List.getElem?_eq_some_iff.1 hti).1; omega) hti]), (HB1.out.trans (hb0.mono HB1.out.size))⟩
    case pos =>
      obtain ⟨b, o, rfl, hbl, hall⟩ := H4.out (by omega)
      obtain ⟨t, ht⟩ : ∃ t, fs1[j]? = some t := ⟨_, List.getElem?_eq_getElem hlt⟩
      obtain ⟨n3, ⟨tk3, tn3, tks3⟩, ⟨bk3, bu3, bn3, ⟨btk3, btn3, btks3⟩, bns3, bks3⟩⟩ := t
      obtain ⟨atks3, ctks3, abtks3, cbtks3, abns3, cbns3, abks3, cbks3, q0, q1, q2, q3, q4, q5, q6, q7, q8, q9, q10, q11, hrk⟩ := hall j n3 tk3 tn3 tks3 bk3 bu3 bn3 btk3 btn3 btks3 bns3 bks3 ht
      clear hall H4
      have HT := hid ht
      have hbg := Df.bulk_get fs1 j _ ht
      have hbk : Df.bulk (Df.mk n3 (Ty.mk tk3 tn3 tks3) (Tm.mk bk3 bu3 bn3 (Ty.mk btk3 btn3 btks3) bns3 bks3)) = n3.size + Ty.bulk (Ty.mk tk3 tn3 tks3) + Tm.bulk (Tm.mk bk3 bu3 bn3 (Ty.mk btk3 btn3 btks3) bns3 bks3) := rfl
      have hMt : Ty.bulk (Ty.mk tk3 tn3 tks3) ≤ 1048576 := by have := HMF.out; omega
      have hMb : Tm.bulk (Tm.mk bk3 bu3 bn3 (Ty.mk btk3 btn3 btks3) bns3 bks3) ≤ 1048576 := by have := HMF.out; omega
      have HLE := hid (namedF_le fs1 j n3 (Ty.mk tk3 tn3 tks3) (Tm.mk bk3 bu3 bn3 (Ty.mk btk3 btn3 btks3) bns3 bks3) ht)
      have HB := hid (HB1.out.trans (hb0.mono HB1.out.size))
      have c0 := (HB.out.cell (p := ⟨b, o + j * 12, none⟩) hbl).trans q0
      have c1 := (HB.out.cell (p := ⟨b, o + j * 12 + 1, none⟩) hbl).trans q1
      have c2 := (HB.out.cell (p := ⟨b, o + j * 12 + 2, none⟩) hbl).trans q2
      have c3 := (HB.out.cell (p := ⟨b, o + j * 12 + 3, none⟩) hbl).trans q3
      have c4 := (HB.out.cell (p := ⟨b, o + j * 12 + 4, none⟩) hbl).trans q4
      have c5 := (HB.out.cell (p := ⟨b, o + j * 12 + 5, none⟩) hbl).trans q5
      have c6 := (HB.out.cell (p := ⟨b, o + j * 12 + 6, none⟩) hbl).trans q6
      have c7 := (HB.out.cell (p := ⟨b, o + j * 12 + 7, none⟩) hbl).trans q7
      have c8 := (HB.out.cell (p := ⟨b, o + j * 12 + 8, none⟩) hbl).trans q8
      have c9 := (HB.out.cell (p := ⟨b, o + j * 12 + 9, none⟩) hbl).trans q9
      have c10 := (HB.out.cell (p := ⟨b, o + j * 12 + 10, none⟩) hbl).trans q10
      have c11 := (HB.out.cell (p := ⟨b, o + j * 12 + 11, none⟩) hbl).trans q11
      have hbk1 : Below wr.heap.size wr (wr.alloc (.cells #[.string n3, .int .i64 tk3, .string tn3, .slice atks3 tks3.length ctks3, .int .i64 bk3, .int .i64 bu3, .string bn3, .int .i64 btk3, .string btn3, .slice abtks3 btks3.length cbtks3, .slice abns3 bns3.length cbns3, .slice abks3 bks3.length cbks3] 65)) := (Below.refl _ _).alloc (Nat.le_refl _) _
      have HBK := hid hbk1
      have HBX := hid hb0
      have HY := hid ((HX1.out.below hb0).alloc #[.string n3, .int .i64 tk3, .string tn3, .slice atks3 tks3.length ctks3, .int .i64 bk3, .int .i64 bu3, .string bn3, .int .i64 btk3, .string btn3, .slice abtks3 btks3.length cbtks3, .slice abns3 bns3.length cbns3, .slice abks3 bks3.length cbks3] 65 (0, 0))
      have hRT := ((RdS.subDf_t hrk).below HB.out).below hbk1
      have hRB := ((RdS.subDf_b hrk).below HB.out).below hbk1
      have hRF := (HFL.out.below HB.out).below hbk1
      have hv := fun W (_ : Below (wr.alloc (.cells #[.string n3, .int .i64 tk3, .string tn3, .slice atks3 tks3.length ctks3, .int .i64 bk3, .int .i64 bu3, .string bn3, .int .i64 btk3, .string btn3, .slice abtks3 btks3.length cbtks3, .slice abns3 bns3.length cbns3, .slice abks3 bks3.length cbks3] 65)).heap.size (wr.alloc (.cells #[.string n3, .int .i64 tk3, .string tn3, .slice atks3 tks3.length ctks3, .int .i64 bk3, .int .i64 bu3, .string bn3, .int .i64 btk3, .string btn3, .slice abtks3 btks3.length cbtks3, .slice abns3 bns3.length cbns3, .slice abks3 bks3.length cbks3] 65)) W) => impl_IsLower n3 W
      have hn := fun W (hW : Below (wr.alloc (.cells #[.string n3, .int .i64 tk3, .string tn3, .slice atks3 tks3.length ctks3, .int .i64 bk3, .int .i64 bu3, .string bn3, .int .i64 btk3, .string btn3, .slice abtks3 btks3.length cbtks3, .slice abns3 bns3.length cbns3, .slice abks3 bks3.length cbks3] 65)).heap.size (wr.alloc (.cells #[.string n3, .int .i64 tk3, .string tn3, .slice atks3 tks3.length ctks3, .int .i64 bk3, .int .i64 bu3, .string bn3, .int .i64 btk3, .string btn3, .slice abtks3 btks3.length cbtks3, .slice abns3 bns3.length cbns3, .slice abks3 bks3.length cbks3] 65)) W) => impl_findDef ds1 fs1 ads1 cds1 (some ⟨b, o, none⟩) cfs1 n3 W (hRF.below hW)
      have hvt := fun W (hW : Below (wr.alloc (.cells #[.string n3, .int .i64 tk3, .string tn3, .slice atks3 tks3.length ctks3, .int .i64 bk3, .int .i64 bu3, .string bn3, .int .i64 btk3, .string btn3, .slice abtks3 btks3.length cbtks3, .slice abns3 bns3.length cbns3, .slice abks3 bks3.length cbks3] 65)).heap.size (wr.alloc (.cells #[.string n3, .int .i64 tk3, .string tn3, .slice atks3 tks3.length ctks3, .int .i64 bk3, .int .i64 bu3, .string bn3, .int .i64 btk3, .string btn3, .slice abtks3 btks3.length cbtks3, .slice abns3 bns3.length cbns3, .slice abks3 bks3.length cbks3] 65)) W) => impl_ValidType tk3 tn3 tks3 atks3 ctks3 W hMt (hRT.below hW)
      have hvb := fun W (hW : Below (wr.alloc (.cells #[.string n3, .int .i64 tk3, .string tn3, .slice atks3 tks3.length ctks3, .int .i64 bk3, .int .i64 bu3, .string bn3, .int .i64 btk3, .string btn3, .slice abtks3 btks3.length cbtks3, .slice abns3 bns3.length cbns3, .slice abks3 bks3.length cbks3] 65)).heap.size (wr.alloc (.cells #[.string n3, .int .i64 tk3, .string tn3, .slice atks3 tks3.length ctks3, .int .i64 bk3, .int .i64 bu3, .string bn3, .int .i64 btk3, .string btn3, .slice abtks3 btks3.length cbtks3, .slice abns3 bns3.length cbns3, .slice abks3 bks3.length cbks3] 65)) W) => impl_ValidTerm bk3 bu3 bn3 btk3 btn3 btks3 bns3 bks3 abtks3 cbtks3 abns3 cbns3 abks3 cbks3 W hMb (hRB.below hW)
      generalize hr2 : namedF fs1 n3 = r at hn
      have HR2 := hid hr2
      clear ht hrk hbg hbk hMt hMb hr2 hb0 hbk1 hRT hRB hRF q0 q1 q2 q3 q4 q5 q6 q7 q8 q9 q10 q11
      by_cases t1 : isLowerB n3 = true
      case neg =>
        have HDF := hid (show dfOk fs1 j (Df.mk n3 (Ty.mk tk3 tn3 tks3) (Tm.mk bk3 bu3 bn3 (Ty.mk btk3 btn3 btks3) bns3 bks3)) = false by rw [dfOk_eq]; simp [t1])
        rw [(Bool.not_eq_true _).mp t1] at hv
        have HV := hid hv
        have HN := hid hn
        have HTY := hid hvt
        have HTM := hid hvb
        clear hv hn hvt hvb t1
        go_wp2_with fail
        refine (HV.out _ (Below.refl _ _)).mono ?_
        rintro e v0 ⟨rfl, hb⟩
        have HB0_ := hid hb
        have HY0 := hid (HY.out.below hb)
        clear hb c0 c1 c2 c3 c4 c5 c6 c7 c8 c9 c10 c11
        go_wp2_with fail
        have hbx := HBX.out.trans ((HBK.out.trans (HB0_.out.mono HBK.out.size)).mono HBX.out.size)
        have hbw := HB1.out.trans (hbx.mono HB1.out.size)
        go_ret
        exact ⟨ret_bool (by rw [HF.out, dfsOk_no fs1 fs1 0 j _ HT.out (by rw [Nat.zero_add]; exact HDF.out)]), hbw⟩
      case pos =>
      by_cases t2 : namedF fs1 n3 = j
      case neg =>
        have HDF := hid (show dfOk fs1 j (Df.mk n3 (Ty.mk tk3 tn3 tks3) (Tm.mk bk3 bu3 bn3 (Ty.mk btk3 btn3 btks3) bns3 bks3)) = false by rw [dfOk_eq]; simp [t1, t2])
        rw [t1] at hv
        have g2 : decide (r < (j : Int)) = true := by rw [← HR2.out]; simp only [decide_eq_true_eq]; have := HLE.out; omega
        have HV := hid hv
        have HN := hid hn
        have HTY := hid hvt
        have HTM := hid hvb
        clear hv hn hvt hvb t1 t2
        go_wp2_with fail
        refine (HV.out _ (Below.refl _ _)).mono ?_
        rintro e v0 ⟨rfl, hb⟩
        have HB0_ := hid hb
        have HY0 := hid (HY.out.below hb)
        clear hb c0 c1 c2 c3 c4 c5 c6 c7 c8 c9 c10 c11
        have e0 := HY0.out.at 1 0 rfl rfl
        have e1 := HY0.out.at 1 1 rfl rfl
        have f0 := HY0.out.at 0 0 rfl rfl
        have f1 := HY0.out.at 0 1 rfl rfl
        have f2 := HY0.out.at 0 2 rfl rfl
        have f3 := HY0.out.at 0 3 rfl rfl
        have f4 := HY0.out.at 0 4 rfl rfl
        have f5 := HY0.out.at 0 5 rfl rfl
        have f6 := HY0.out.at 0 6 rfl rfl
        have f7 := HY0.out.at 0 7 rfl rfl
        have f8 := HY0.out.at 0 8 rfl rfl
        have f9 := HY0.out.at 0 9 rfl rfl
        have f10 := HY0.out.at 0 10 rfl rfl
        have f11 := HY0.out.at 0 11 rfl rfl
        go_wp2_with fail
        refine (HN.out _ HB0_.out).mono ?_
        rintro e v1 ⟨rfl, hb⟩
        have HB1_ := hid (HB0_.out.trans (hb.mono HB0_.out.size))
        have HY1 := hid (HY0.out.below hb)
        clear hb e0 e1 f0 f1 f2 f3 f4 f5 f6 f7 f8 f9 f10 f11
        go_wp2_with fail
        have hbx := HBX.out.trans ((HBK.out.trans (HB1_.out.mono HBK.out.size)).mono HBX.out.size)
        have hbw := HB1.out.trans (hbx.mono HB1.out.size)
        go_ret
        exact ⟨ret_bool (by rw [HF.out, dfsOk_no fs1 fs1 0 j _ HT.out (by rw [Nat.zero_add]; exact HDF.out)]), hbw⟩
      case pos =>
      by_cases t3 : Ty.ok (Ty.mk tk3 tn3 tks3) = true
      case neg =>
        have HDF := hid (show dfOk fs1 j (Df.mk n3 (Ty.mk tk3 tn3 tks3) (Tm.mk bk3 bu3 bn3 (Ty.mk btk3 btn3 btks3) bns3 bks3)) = false by rw [dfOk_eq]; simp [t1, t2, t3])
        rw [t1] at hv
        rw [(Bool.not_eq_true _).mp t3] at hvt
        have g2 : decide (r < (j : Int)) = false := by rw [← HR2.out, t2]; simp
        have HV := hid hv
        have HN := hid hn
        have HTY := hid hvt
        have HTM := hid hvb
        clear hv hn hvt hvb t1 t2 t3
        go_wp2_with fail
        refine (HV.out _ (Below.refl _ _)).mono ?_
        rintro e v0 ⟨rfl, hb⟩
        have HB0_ := hid hb
        have HY0 := hid (HY.out.below hb)
        clear hb c0 c1 c2 c3 c4 c5 c6 c7 c8 c9 c10 c11
        have e0 := HY0.out.at 1 0 rfl rfl
        have e1 := HY0.out.at 1 1 rfl rfl
        have f0 := HY0.out.at 0 0 rfl rfl
        have f1 := HY0.out.at 0 1 rfl rfl
        have f2 := HY0.out.at 0 2 rfl rfl
        have f3 := HY0.out.at 0 3 rfl rfl
        have f4 := HY0.out.at 0 4 rfl rfl
        have f5 := HY0.out.at 0 5 rfl rfl
        have f6 := HY0.out.at 0 6 rfl rfl
        have f7 := HY0.out.at 0 7 rfl rfl
        have f8 := HY0.out.at 0 8 rfl rfl
        have f9 := HY0.out.at 0 9 rfl rfl
        have f10 := HY0.out.at 0 10 rfl rfl
        have f11 := HY0.out.at 0 11 rfl rfl
        go_wp2_with fail
        refine (HN.out _ HB0_.out).mono ?_
        rintro e v1 ⟨rfl, hb⟩
        have HB1_ := hid (HB0_.out.trans (hb.mono HB0_.out.size))
        have HY1 := hid (HY0.out.below hb)
        clear hb e0 e1 f0 f1 f2 f3 f4 f5 f6 f7 f8 f9 f10 f11
        have e0 := HY1.out.at 1 0 rfl rfl
        have e1 := HY1.out.at 1 1 rfl rfl
        have f0 := HY1.out.at 0 0 rfl rfl
        have f1 := HY1.out.at 0 1 rfl rfl
        have f2 := HY1.out.at 0 2 rfl rfl
        have f3 := HY1.out.at 0 3 rfl rfl
        have f4 := HY1.out.at 0 4 rfl rfl
        have f5 := HY1.out.at 0 5 rfl rfl
        have f6 := HY1.out.at 0 6 rfl rfl
        have f7 := HY1.out.at 0 7 rfl rfl
        have f8 := HY1.out.at 0 8 rfl rfl
        have f9 := HY1.out.at 0 9 rfl rfl
        have f10 := HY1.out.at 0 10 rfl rfl
        have f11 := HY1.out.at 0 11 rfl rfl
        go_wp2_with fail
        refine (HTY.out _ HB1_.out).mono ?_
        rintro e v2 ⟨rfl, hb⟩
        have HB2_ := hid (HB1_.out.trans (hb.mono HB1_.out.size))
        have HY2 := hid (HY1.out.below hb)
        clear hb e0 e1 f0 f1 f2 f3 f4 f5 f6 f7 f8 f9 f10 f11
        go_wp2_with fail
        have hbx := HBX.out.trans ((HBK.out.trans (HB2_.out.mono HBK.out.size)).mono HBX.out.size)
        have hbw := HB1.out.trans (hbx.mono HB1.out.size)
        go_ret
        exact ⟨ret_bool (by rw [HF.out, dfsOk_no fs1 fs1 0 j _ HT.out (by rw [Nat.zero_add]; exact HDF.out)]), hbw⟩
      case pos =>
      by_cases t4 : Tm.ok (Tm.mk bk3 bu3 bn3 (Ty.mk btk3 btn3 btks3) bns3 bks3) = true
      case neg =>
        have HDF := hid (show dfOk fs1 j (Df.mk n3 (Ty.mk tk3 tn3 tks3) (Tm.mk bk3 bu3 bn3 (Ty.mk btk3 btn3 btks3) bns3 bks3)) = false by rw [dfOk_eq]; simp [t1, t2, t3, t4])
        rw [t1] at hv
        rw [t3] at hvt
        rw [(Bool.not_eq_true _).mp t4] at hvb
        have g2 : decide (r < (j : Int)) = false := by rw [← HR2.out, t2]; simp
        have HV := hid hv
        have HN := hid hn
        have HTY := hid hvt
        have HTM := hid hvb
        clear hv hn hvt hvb t1 t2 t3 t4
        go_wp2_with fail
        refine (HV.out _ (Below.refl _ _)).mono ?_
        rintro e v0 ⟨rfl, hb⟩
        have HB0_ := hid hb
        have HY0 := hid (HY.out.below hb)
        clear hb c0 c1 c2 c3 c4 c5 c6 c7 c8 c9 c10 c11
        have e0 := HY0.out.at 1 0 rfl rfl
        have e1 := HY0.out.at 1 1 rfl rfl
        have f0 := HY0.out.at 0 0 rfl rfl
        have f1 := HY0.out.at 0 1 rfl rfl
        have f2 := HY0.out.at 0 2 rfl rfl
        have f3 := HY0.out.at 0 3 rfl rfl
        have f4 := HY0.out.at 0 4 rfl rfl
        have f5 := HY0.out.at 0 5 rfl rfl
        have f6 := HY0.out.at 0 6 rfl rfl
        have f7 := HY0.out.at 0 7 rfl rfl
        have f8 := HY0.out.at 0 8 rfl rfl
        have f9 := HY0.out.at 0 9 rfl rfl
        have f10 := HY0.out.at 0 10 rfl rfl
        have f11 := HY0.out.at 0 11 rfl rfl
        go_wp2_with fail
        refine (HN.out _ HB0_.out).mono ?_
        rintro e v1 ⟨rfl, hb⟩
        have HB1_ := hid (HB0_.out.trans (hb.mono HB0_.out.size))
        have HY1 := hid (HY0.out.below hb)
        clear hb e0 e1 f0 f1 f2 f3 f4 f5 f6 f7 f8 f9 f10 f11
        have e0 := HY1.out.at 1 0 rfl rfl
        have e1 := HY1.out.at 1 1 rfl rfl
        have f0 := HY1.out.at 0 0 rfl rfl
        have f1 := HY1.out.at 0 1 rfl rfl
        have f2 := HY1.out.at 0 2 rfl rfl
        have f3 := HY1.out.at 0 3 rfl rfl
        have f4 := HY1.out.at 0 4 rfl rfl
        have f5 := HY1.out.at 0 5 rfl rfl
        have f6 := HY1.out.at 0 6 rfl rfl
        have f7 := HY1.out.at 0 7 rfl rfl
        have f8 := HY1.out.at 0 8 rfl rfl
        have f9 := HY1.out.at 0 9 rfl rfl
        have f10 := HY1.out.at 0 10 rfl rfl
        have f11 := HY1.out.at 0 11 rfl rfl
        go_wp2_with fail
        refine (HTY.out _ HB1_.out).mono ?_
        rintro e v2 ⟨rfl, hb⟩
        have HB2_ := hid (HB1_.out.trans (hb.mono HB1_.out.size))
        have HY2 := hid (HY1.out.below hb)
        clear hb e0 e1 f0 f1 f2 f3 f4 f5 f6 f7 f8 f9 f10 f11
        have e0 := HY2.out.at 1 0 rfl rfl
        have e1 := HY2.out.at 1 1 rfl rfl
        have f0 := HY2.out.at 0 0 rfl rfl
        have f1 := HY2.out.at 0 1 rfl rfl
        have f2 := HY2.out.at 0 2 rfl rfl
        have f3 := HY2.out.at 0 3 rfl rfl
        have f4 := HY2.out.at 0 4 rfl rfl
        have f5 := HY2.out.at 0 5 rfl rfl
        have f6 := HY2.out.at 0 6 rfl rfl
        have f7 := HY2.out.at 0 7 rfl rfl
        have f8 := HY2.out.at 0 8 rfl rfl
        have f9 := HY2.out.at 0 9 rfl rfl
        have f10 := HY2.out.at 0 10 rfl rfl
        have f11 := HY2.out.at 0 11 rfl rfl
        go_wp2_with fail
        refine (HTM.out _ HB2_.out).mono ?_
        rintro e v3 ⟨rfl, hb⟩
        have HB3_ := hid (HB2_.out.trans (hb.mono HB2_.out.size))
        have HY3 := hid (HY2.out.below hb)
        clear hb e0 e1 f0 f1 f2 f3 f4 f5 f6 f7 f8 f9 f10 f11
        go_wp2_with fail
        have hbx := HBX.out.trans ((HBK.out.trans (HB3_.out.mono HBK.out.size)).mono HBX.out.size)
        have hbw := HB1.out.trans (hbx.mono HB1.out.size)
        go_ret
        exact ⟨ret_bool (by rw [HF.out, dfsOk_no fs1 fs1 0 j _ HT.out (by rw [Nat.zero_add]; exact HDF.out)]), hbw⟩
      case pos =>
      have HDF := hid (show dfOk fs1 j (Df.mk n3 (Ty.mk tk3 tn3 tks3) (Tm.mk bk3 bu3 bn3 (Ty.mk btk3 btn3 btks3) bns3 bks3)) = true by rw [dfOk_eq]; simp [t1, t2, t3, t4])
      rw [t1] at hv
      rw [t3] at hvt
      rw [t4] at hvb
      have g2 : decide (r < (j : Int)) = false := by rw [← HR2.out, t2]; simp
      have HV := hid hv
      have HN := hid hn
      have HTY := hid hvt
      have HTM := hid hvb
      clear hv hn hvt hvb t1 t2 t3 t4
      go_wp2_with fail
      refine (HV.out _ (Below.refl _ _)).mono ?_
      rintro e v0 ⟨rfl, hb⟩
      have HB0_ := hid hb
      have HY0 := hid (HY.out.below hb)
      clear hb c0 c1 c2 c3 c4 c5 c6 c7 c8 c9 c10 c11
      have e0 := HY0.out.at 1 0 rfl rfl
      have e1 := HY0.out.at 1 1 rfl rfl
      have f0 := HY0.out.at 0 0 rfl rfl
      have f1 := HY0.out.at 0 1 rfl rfl
      have f2 := HY0.out.at 0 2 rfl rfl
      have f3 := HY0.out.at 0 3 rfl rfl
      have f4 := HY0.out.at 0 4 rfl rfl
      have f5 := HY0.out.at 0 5 rfl rfl
      have f6 := HY0.out.at 0 6 rfl rfl
      have f7 := HY0.out.at 0 7 rfl rfl
      have f8 := HY0.out.at 0 8 rfl rfl
      have f9 := HY0.out.at 0 9 rfl rfl
      have f10 := HY0.out.at 0 10 rfl rfl
      have f11 := HY0.out.at 0 11 rfl rfl
      go_wp2_with fail
      refine (HN.out _ HB0_.out).mono ?_
      rintro e v1 ⟨rfl, hb⟩
      have HB1_ := hid (HB0_.out.trans (hb.mono HB0_.out.size))
      have HY1 := hid (HY0.out.below hb)
      clear hb e0 e1 f0 f1 f2 f3 f4 f5 f6 f7 f8 f9 f10 f11
      have e0 := HY1.out.at 1 0 rfl rfl
      have e1 := HY1.out.at 1 1 rfl rfl
      have f0 := HY1.out.at 0 0 rfl rfl
      have f1 := HY1.out.at 0 1 rfl rfl
      have f2 := HY1.out.at 0 2 rfl rfl
      have f3 := HY1.out.at 0 3 rfl rfl
      have f4 := HY1.out.at 0 4 rfl rfl
      have f5 := HY1.out.at 0 5 rfl rfl
      have f6 := HY1.out.at 0 6 rfl rfl
      have f7 := HY1.out.at 0 7 rfl rfl
      have f8 := HY1.out.at 0 8 rfl rfl
      have f9 := HY1.out.at 0 9 rfl rfl
      have f10 := HY1.out.at 0 10 rfl rfl
      have f11 := HY1.out.at 0 11 rfl rfl
      go_wp2_with fail
      refine (HTY.out _ HB1_.out).mono ?_
      rintro e v2 ⟨rfl, hb⟩
      have HB2_ := hid (HB1_.out.trans (hb.mono HB1_.out.size))
      have HY2 := hid (HY1.out.below hb)
      clear hb e0 e1 f0 f1 f2 f3 f4 f5 f6 f7 f8 f9 f10 f11
      have e0 := HY2.out.at 1 0 rfl rfl
      have e1 := HY2.out.at 1 1 rfl rfl
      have f0 := HY2.out.at 0 0 rfl rfl
      have f1 := HY2.out.at 0 1 rfl rfl
      have f2 := HY2.out.at 0 2 rfl rfl
      have f3 := HY2.out.at 0 3 rfl rfl
      have f4 := HY2.out.at 0 4 rfl rfl
      have f5 := HY2.out.at 0 5 rfl rfl
      have f6 := HY2.out.at 0 6 rfl rfl
      have f7 := HY2.out.at 0 7 rfl rfl
      have f8 := HY2.out.at 0 8 rfl rfl
      have f9 := HY2.out.at 0 9 rfl rfl
      have f10 := HY2.out.at 0 10 rfl rfl
      have f11 := HY2.out.at 0 11 rfl rfl
      go_wp2_with fail
      refine (HTM.out _ HB2_.out).mono ?_
      rintro e v3 ⟨rfl, hb⟩
      have HB3_ := hid (HB2_.out.trans (hb.mono HB2_.out.size))
      have HY3 := hid (HY2.out.below hb)
      clear hb e0 e1 f0 f1 f2 f3 f4 f5 f6 f7 f8 f9 f10 f11
      go_wp2_with fail
      have hbx := HBX.out.trans ((HBK.out.trans (HB3_.out.mono HBK.out.size)).mono HBX.out.size)
      have hbw := HB1.out.trans (hbx.mono HB1.out.size)
      go_roundw
      case rel => exact ⟨j + 1, by omega, by go_num, fun i t hi hti => (Nat.lt_succ_iff_lt_or_eq.1 hi).elim (fun hi => HJ.out i t hi hti) (fun he => by subst he; obtain rfl := Option.some.inj (hti.symm.trans HT.out); exact HDF.out), hbx⟩
      case measure => simp [intOf]; omega

end Go.Proofs.YtgpefnlpbjnjbaaGreat
