/- Walks: marks in types, read again. No condition. -/
import Derived.Test.YtgpefnlpbjnjbaaMkTy
import Derived.Test.YtgpefnlpbjnjbaaEqSc
namespace Go.Proofs.Ytgpefnlpbjnjbaa
open Go.Sort (grow)
open Go.ChangeShapes Go.WideShapes Go.ChangeAt Go.RowKit
set_option linter.unusedVariables false

mutual
def Ty.mrk : Nat → Ty → Ty
  | k, .mk _ _ ks => .mk (k : Int) (mtxt (k + 1)) (Ty.mrks (k + 2) ks)
def Ty.mrks : Nat → List Ty → List Ty
  | _, [] => []
  | k, t :: ts => Ty.mrk k t :: Ty.mrks (k + D.num (Ty.d t)) ts
end
mutual
theorem Ty.d_mark : ∀ (t : Ty) (k : Nat), D.mark k (Ty.d t) = Ty.d (Ty.mrk k t)
  | .mk k0 n ks, k => by
    have h := Ty.ds_marks ks (k + 2)
    simp only [Ty.d, Ty.mrk, D.mark, D.marks, D.num]
    rw [show k + 1 + 1 = k + 2 from rfl, h]
theorem Ty.ds_marks : ∀ (ts : List Ty) (k : Nat), D.marks k (Ty.ds ts) = Ty.ds (Ty.mrks k ts)
  | [], k => rfl
  | t :: ts, k => by rw [Ty.ds, D.marks, Ty.mrks, Ty.ds, Ty.d_mark t k, Ty.ds_marks ts]
end
theorem Ty.mrks_length : ∀ (ts : List Ty) (k : Nat), (Ty.mrks k ts).length = ts.length
  | [], _ => rfl
  | t :: ts, k => by simp [Ty.mrks, Ty.mrks_length ts]
theorem Ty.mrks_get : ∀ (ts : List Ty) (k j : Nat) (t : Ty), ts[j]? = some t → (Ty.mrks k ts)[j]? = some (Ty.mrk (k + D.nums (Ty.ds (ts.take j))) t)
  | [], k, j, t, h => by simp at h
  | u :: ts, k, 0, t, h => by simp at h; subst h; simp [Ty.mrks, Ty.ds, D.nums]
  | u :: ts, k, j + 1, t, h => by
    rw [Ty.mrks, List.getElem?_cons_succ, Ty.mrks_get ts _ j t (by simpa using h), List.take_succ_cons, Ty.ds, D.nums, Nat.add_assoc]
theorem Ty.nums_take (ts : List Ty) (j : Nat) (t : Ty) (h : ts[j]? = some t) : D.nums (Ty.ds (ts.take (j + 1))) = D.nums (Ty.ds (ts.take j)) + D.num (Ty.d t) := by
  rw [Ty.ds_snoc ts j t h, D.nums_append]; simp [D.nums]
theorem Ty.nums_take_le : ∀ (ts : List Ty) (j : Nat), D.nums (Ty.ds (ts.take j)) ≤ D.nums (Ty.ds ts)
  | [], j => by simp
  | t :: ts, 0 => by simp [Ty.ds, D.nums]
  | t :: ts, j + 1 => by have := Ty.nums_take_le ts j; simp [Ty.ds, D.nums]; omega
theorem Ty.num_mk (k : Int) (n : ByteArray) (ks : List Ty) : D.num (Ty.d (.mk k n ks)) = 2 + D.nums (Ty.ds ks) := by simp [Ty.d, D.num, D.nums]; omega
def HdTyW (N : Nat) : Prop := ∀ (ts : List Ty) (a : Option Addr) (c : Nat) (k : Nat) (w : World), D.nums (Ty.ds ts) < N → k + D.nums (Ty.ds ts) ≤ 1099511627776 → RdL w (Ty.ds (Ty.mrks k ts)) (.slice a ts.length c) →
  Calls Try.prog 55 #[.slice a ts.length c, .int .i64 k] w fun e w' => e = .returned (.int .i64 (k + D.nums (Ty.ds ts) : Nat)) ∧ Below w.heap.size w w'
set_option maxRecDepth 100000 in
set_option maxHeartbeats 4000000 in
theorem heldTys_step (N : Nat) (ih : HdTyW N) : HdTyW (N + 1) := by
  intro ts a c k w hN hk hr
  obtain ⟨a', c', e, h2, h3, h4⟩ := hr.eTy
  rw [Ty.mrks_length] at e h2 h4
  simp only [Value.slice.injEq, true_and] at e
  obtain ⟨rfl, rfl⟩ := e
  have H4 := hid h4
  have IH := hid ih
  have HK := hid hk
  have HN := hid hN
  clear hr h4 ih hN hk
  go_enter Try.func55, Try.ntmps55
  go_wp2_with fail
  go_loopw [1, 5] (fun q i wr => ∃ (j m : Nat), j ≤ ts.length ∧ i = .int .i64 j ∧ q = .int .i64 m ∧ Hid (m = k + D.nums (Ty.ds (ts.take j))) ∧ Below w.heap.size w wr) (fun _ i _ => ts.length - (intOf i).toNat)
  case atStart => exact ⟨0, k, by omega, rfl, rfl, hid (by simp [Ty.ds, D.nums]), Below.refl _ _⟩
  case round =>
    obtain ⟨j, m, hj, rfl, rfl, HM, hb⟩ := hrel
    have hm : m ≤ 1099511627776 := by have := HM.out; have := Ty.nums_take_le ts j; have := HK.out; omega
    by_cases hlt : j < ts.length
    case neg =>
      have HE := hid (show m = k + D.nums (Ty.ds ts) by have h := HM.out; rw [show j = ts.length by omega, List.take_length] at h; exact h)
      go_wp2_with fail
      go_ret
      exact ⟨by rw [← HE.out]; rfl, hb⟩
    case pos =>
      obtain ⟨t, ht⟩ : ∃ t, ts[j]? = some t := ⟨_, List.getElem?_eq_getElem hlt⟩
      have hmt := Ty.mrks_get ts k j t ht
      rw [← HM.out] at hmt
      have hnt := Ty.nums_take ts j t ht
      have hnl := Ty.nums_take_le ts (j + 1)
      obtain ⟨k3, n3, ks3⟩ := t
      rw [Ty.num_mk] at hnt
      rw [Ty.mrk] at hmt
      obtain ⟨b, o, rfl, hbl, hall⟩ := H4.out (by omega)
      obtain ⟨aks3, cks3, q0, q1, q2, hrk⟩ := hall j _ _ _ hmt
      rw [Ty.mrks_length] at q2 hrk
      have hrl : RdL w (Ty.ds (Ty.mrks (m + 2) ks3)) (.slice aks3 ks3.length cks3) := by
        have h := hrk
        obtain ⟨F, h⟩ := h
        obtain ⟨a9, c9, e9, h9⟩ := h.Ty_inv
        simp only [List.cons.injEq, Value.slice.injEq, true_and, and_true] at e9
        obtain ⟨rfl, -, rfl⟩ := e9
        rw [Ty.mrks_length] at h9
        exact h9.2.2
      have hm2 : m + 2 + D.nums (Ty.ds ks3) ≤ 1099511627776 := by have := HM.out; have := HK.out; omega
      have hkid : D.nums (Ty.ds ks3) < N := by have := HN.out; omega
      have d0 := (hb.cell (p := ⟨b, o + j * 3, none⟩) hbl).trans q0
      have d1 := (hb.cell (p := ⟨b, o + j * 3 + 1, none⟩) hbl).trans q1
      have d2 := (hb.cell (p := ⟨b, o + j * 3 + 2, none⟩) hbl).trans q2
      have HRL := hid hrl
      have HNX := hid (show m + 2 + D.nums (Ty.ds ks3) = k + D.nums (Ty.ds (ts.take (j + 1))) by have := HM.out; omega)
      clear hall H4 q0 q1 q2 hrk hrl hmt hnt hnl
      have e1 := cell_regrown d1
      have hc := fun d os => Calls.regrown_of (mark_Text (m + 1) (by omega) (grow (redrawn wr d) os))
      rw [show ((m + 1 : Nat) : Int) = (m : Int) + 1 from by omega] at hc
      have HC := hid hc
      generalize hs : mtxt (m + 1) = sm at d1 e1 HC
      have hq : (sm.data == sm.data) = true := by simp
      clear hc hs
      go_wp2_with fail
      clear d0 d1
      refine wp_region_quiet_below (by kernel_rfl) (by kernel_rfl) ?_
      repeat (quiet_step (exact HC.out _ _))
      refine wpQuiet_nil ?_
      intro _ hw'
      obtain ⟨⟨dq, osq⟩, hw''⟩ := hw'
      subst hw''
      have hrg := below_regrown wr dq osq
      have d2' := (hrg.cell (p := ⟨b, o + j * 3 + 2, none⟩) (Nat.lt_of_lt_of_le hbl hb.size)).trans d2
      have hbq := hb.trans (hrg.mono hb.size)
      have HRQ := HRL.out.below hbq
      have hic := IH.out ks3 aks3 cks3 (m + 2) _ hkid hm2 HRQ
      rw [show ((m + 2 : Nat) : Int) = (m : Int) + 1 + 1 from by omega] at hic
      obtain ⟨mx, hmx⟩ : ∃ mx, mx = m + 2 + D.nums (Ty.ds ks3) := ⟨_, rfl⟩
      rw [← hmx] at hic
      have hmx0 : decide ((mx : Int) < 0) = false := decide_eq_false (by omega)
      have hmxb : mx ≤ 1099511627776 := by omega
      have HIC := hid hic
      have HMX := hid (hmx.trans HNX.out)
      have HBQ := hid hbq
      clear HC e1 d2 HRL hrg HRQ hic hmx hbq HNX
      go_wp2_with fail
      refine HIC.out.mono ?_
      rintro e w2 ⟨rfl, hb2⟩
      have HB2 := hid (HBQ.out.trans (hb2.mono HBQ.out.size))
      clear hb2 d2' HIC
      go_wp2_with fail
      go_roundw
      case rel => exact ⟨j + 1, mx, by omega, by go_num, rfl, HMX, HB2.out⟩
      case measure => simp [intOf]; omega
theorem heldTys_all : ∀ N, HdTyW N
  | 0 => fun _ _ _ _ _ h => absurd h (by omega)
  | N + 1 => heldTys_step N (heldTys_all N)
theorem heldTys (ts : List Ty) (a : Option Addr) (c : Nat) (k : Nat) (w : World) (hk : k + D.nums (Ty.ds ts) ≤ 1099511627776) (hr : RdL w (D.marks k (Ty.ds ts)) (.slice a ts.length c)) :
    Calls Try.prog 55 #[.slice a ts.length c, .int .i64 k] w fun e w' => e = .returned (.int .i64 (k + D.nums (Ty.ds ts) : Nat)) ∧ Below w.heap.size w w' :=
  heldTys_all (D.nums (Ty.ds ts) + 1) ts a c k w (by omega) hk (by rw [← Ty.ds_marks]; exact hr)
/-- The lists of a type given by value: what its marks are. -/
theorem markTy_out (k1 : Int) (n1 : ByteArray) (ks1 : List Ty) (aks1 : Option Addr) (cks1 : Nat) (F : List Nat) (k : Nat) (w : World) (hl : ks1.length ≤ 9223372036854775807) (hk : k + D.nums (Ty.ds ks1) ≤ 1099511627776) (hr : Rd w (.list (Ty.ds ks1)) [.slice aks1 ks1.length cks1] F) (ho : Owned w 0 F) :
    Calls Try.prog 14 #[.agg #[.int .i64 k1, .string n1, .slice aks1 ks1.length cks1], .int .i64 k] w (MkPost w (.slice aks1 ks1.length cks1) F k (Ty.ds ks1)) := by
  have hB := (Below.refl w.heap.size w).alloc (Nat.le_refl _) (.cells #[.int .i64 k1, .string n1, .slice aks1 ks1.length cks1] 28)
  generalize hw1 : w.alloc (.cells #[.int .i64 k1, .string n1, .slice aks1 ks1.length cks1] 28) = w1 at hB
  have hc := markTys ks1 aks1 cks1 F k w1 hl hk (hr.below hB) (ho.keep fun x hx => hB.block x (hr.lt x hx))
  unfold MkPost at hc ⊢
  obtain ⟨r, hr2⟩ : ∃ r, r = k + D.nums (Ty.ds ks1) := ⟨_, rfl⟩
  rw [← hr2] at hc ⊢
  have hrb : r ≤ 1099511627776 := by omega
  have HC := hid hc
  have HB := hid hB
  clear hc hr ho hr2 hk
  subst hw1
  go_enter Try.func14, Try.ntmps14
  go_wp2_with fail
  refine HC.out.mono ?_
  rintro e u2 ⟨rfl, hrd, hm⟩
  have HRD := hid hrd
  have HM := hid hm
  clear hrd hm
  go_wp2_with fail
  go_ret
  exact ⟨rfl, HRD.out, (Mk.of_below HB.out).trans HM.out⟩
theorem heldTy (k1 : Int) (n1 : ByteArray) (ks1 : List Ty) (aks1 : Option Addr) (cks1 : Nat) (k : Nat) (w : World) (hk : k + D.nums (Ty.ds ks1) ≤ 1099511627776) (hr : RdL w (D.marks k (Ty.ds ks1)) (.slice aks1 ks1.length cks1)) :
    Calls Try.prog 15 #[.agg #[.int .i64 k1, .string n1, .slice aks1 ks1.length cks1], .int .i64 k] w fun e w' => e = .returned (.int .i64 (k + D.nums (Ty.ds ks1) : Nat)) ∧ Below w.heap.size w w' := by
  have hB := (Below.refl w.heap.size w).alloc (Nat.le_refl _) (.cells #[.int .i64 k1, .string n1, .slice aks1 ks1.length cks1] 28)
  have hc := heldTys ks1 aks1 cks1 k _ hk (hr.below hB)
  obtain ⟨r, hr2⟩ : ∃ r, r = k + D.nums (Ty.ds ks1) := ⟨_, rfl⟩
  rw [← hr2] at hc ⊢
  have hrb : r ≤ 1099511627776 := by omega
  have hr0 : decide ((r : Int) < 0) = false := decide_eq_false (by omega)
  have HC := hid hc
  have HB := hid hB
  clear hc hr hr2 hk hB
  go_enter Try.func15, Try.ntmps15
  go_wp2_with fail
  refine HC.out.mono ?_
  rintro e u2 ⟨rfl, hb⟩
  have HB2 := hid (HB.out.trans (hb.mono HB.out.size))
  clear hb
  go_wp2_with fail
  go_ret
  exact ⟨rfl, HB2.out⟩
end Go.Proofs.Ytgpefnlpbjnjbaa
