/- Walks: StripBangs in both. No condition. -/
import Derived.Test.YtgpefnlpbjnjbaaRowTy
import Derived.Test.YtgpefnlpbjnjbaaErF
import Derived.Deep.LoopGhost
namespace Go.Proofs.Ytgpefnlpbjnjbaa
open Go.ChangeShapes Go.WideShapes Go.ChangeAt Go.RowKit
open Go.Sort (grow)
set_option linter.unusedVariables false

def GivesST (m : Nat) (k : Int) (n : ByteArray) (ks : List Ty) (w : World) (e : Ending) (w' : World) : Prop :=
  ∃ (a : Option Addr) (c : Nat), e = .returned (.tuple #[.int .i64 m, .agg #[.int .i64 k, .string n, .slice a ks.length c]]) ∧ OwnS w' w.heap.size (Ty.d (Ty.mk k n ks)) [.int .i64 k, .string n, .slice a ks.length c] ∧ Below w.heap.size w w'
def stripN (t : Ty) : Nat × Ty := if Ty.ok t then Ty.strip t else (0, noTy)
theorem stripN_yes {t : Ty} (h : Ty.ok t = true) : stripN t = Ty.strip t := if_pos h
theorem stripN_no {t : Ty} (h : Ty.ok t = false) : stripN t = (0, noTy) := by rw [stripN, h]; rfl
mutual
theorem Ty.strip_bulk : ∀ t : Ty, Ty.bulk (Ty.strip t).2 ≤ Ty.bulk t
  | .mk k n ks => by
    have h := Ty.strips_bulk ks
    rw [Ty.strip]
    split
    · cases he : Ty.strips ks with
      | nil => simp [Ty.bulk, Ty.bulks]
      | cons x xs => have := h x (by rw [he]; simp); simp only [Ty.bulk] at *; omega
    · simp
theorem Ty.strips_bulk : ∀ ts : List Ty, ∀ x ∈ Ty.strips ts, Ty.bulk x.2 ≤ Ty.bulks ts
  | [], x, hx => by simp [Ty.strips] at hx
  | t :: ts, x, hx => by
    rw [Ty.strips] at hx
    simp only [Ty.bulks]
    rcases List.mem_cons.1 hx with rfl | hx
    · have := Ty.strip_bulk t; omega
    · have := Ty.strips_bulk ts x hx; omega
end
theorem stripN_bulk (t : Ty) : Ty.bulk (stripN t).2 ≤ Ty.bulk t := by
  unfold stripN
  split
  · exact Ty.strip_bulk t
  · have : Ty.bulk noTy = 0 := by rw [noTy, Ty.bulk, Ty.bulks]; rfl
    simp only; omega
theorem stripN_eta (t : Ty) : ∃ rm rk rn rks, stripN t = (rm, Ty.mk rk rn rks) := by
  obtain ⟨m, u⟩ := stripN t
  obtain ⟨k, n, ks, rfl⟩ := Ty.eta u
  exact ⟨m, k, n, ks, rfl⟩
set_option maxRecDepth 100000 in
set_option maxHeartbeats 4000000 in
theorem spec_StripBangs (k0 : Int) (n0 : ByteArray) (ks0 : List Ty) (aks0 : Option Addr) (cks0 : Nat) (w : World) (hM : Ty.bulk (Ty.mk k0 n0 ks0) ≤ 1048576) (hr : RdS w (Ty.d (Ty.mk k0 n0 ks0)) [.int .i64 k0, .string n0, .slice aks0 ks0.length cks0]) {sn : Nat} {rk : Int} {rn : ByteArray} {rks : List Ty} (he : stripN (Ty.mk k0 n0 ks0) = (sn, Ty.mk rk rn rks)) :
    Calls Try.prog 16 #[.agg #[.int .i64 k0, .string n0, .slice aks0 ks0.length cks0]] w (GivesST sn rk rn rks w) := by
  have hA := alloc2 w (.cells #[.int .i64 k0, .string n0, .slice aks0 ks0.length cks0] 28) (.cells #[.int .i64 0, .string ⟨#[]⟩, .slice none 0 0] 28)
  have HA1 := hid hA.1
  have HA2 := hid hA.2.1
  have HA3 := hid hA.2.2.1
  have HAB := hid hA.2.2.2
  have hc := spec_ValidType k0 n0 ks0 aks0 cks0 _ hM (hr.below hA.2.2.2)
  have HC := hid hc
  have HR0 := hid hr
  have HM0 := hid hM
  clear hA hc hr hM
  by_cases hok : Ty.ok (Ty.mk k0 n0 ks0) = true
  case neg =>
    have hf := (Bool.not_eq_true _).mp hok
    rw [hf] at HC
    have hz : (0, noTy) = (sn, Ty.mk rk rn rks) := (stripN_no hf).symm.trans he
    simp only [noTy, Prod.mk.injEq, Ty.mk.injEq] at hz
    obtain ⟨rfl, rfl, rfl, rfl⟩ := hz
    clear hf hok he
    go_enter Try.func16, Try.ntmps16
    go_wp2_with fail
    refine HC.out.mono ?_
    rintro e w1 ⟨rfl, hb⟩
    have HX := hid ((hb.block _ (Array.getElem?_eq_some_iff.1 HA2.out).1).trans HA2.out)
    have HB := hid (HAB.out.trans (hb.mono HAB.out.size))
    have z0 := heap_free HX.out 0
    have z1 := heap_free HX.out 1
    have z2 := heap_free HX.out 2
    have r0 := heap_cell HX.out (j := 0) rfl
    have r1 := heap_cell HX.out (j := 1) rfl
    have r2 := heap_cell HX.out (j := 2) rfl
    have HS := hid (set3 HX.out (.int .i64 0) (.string ⟨#[]⟩) (.slice none 0 0))
    clear hb
    go_wp2_with fail
    have hc0 := heap_cell HS.out (j := 0) rfl
    have hc1 := heap_cell HS.out (j := 1) rfl
    have hc2 := heap_cell HS.out (j := 2) rfl
    refine bodyPost_ret (v := .tuple #[.int .i64 0, .agg #[.int .i64 0, .string ⟨#[]⟩, .slice none 0 0]]) (by simp [results, Try.results16, go_sem, hc0, hc1, hc2]) rfl ?_
    refine ⟨none, 0, rfl, ?_, ((HB.out.setCell (by simp) _).setCell (by simp) _).setCell (by simp) _⟩
    exact Ty.own_mk (ks := []) (by omega) (by omega) (by decide) ⟨[], Rd.nil_mk (by omega), Owned.nil _ _⟩
  case pos =>
    rw [hok] at HC
    have HG0 := hid (Ty.ok_good hok)
    have hE := (stripN_yes hok).symm.trans he
    have PL0 := hid (show (Ty.strip (Ty.mk k0 n0 ks0)).1 + 0 = sn ∧ (Ty.strip (Ty.mk k0 n0 ks0)).2 = Ty.mk rk rn rks from ⟨by rw [hE]; rfl, by rw [hE]⟩)
    clear hok he hE
    go_enter Try.func16, Try.ntmps16
    go_wp2_with fail
    refine HC.out.mono ?_
    rintro e w1 ⟨rfl, hb⟩
    have HS0 := hid ((hb.block _ (Array.getElem?_eq_some_iff.1 HA1.out).1).trans HA1.out)
    have HS1 := hid ((hb.block _ (Array.getElem?_eq_some_iff.1 HA2.out).1).trans HA2.out)
    have HS2 := hid (HAB.out.trans (hb.mono HAB.out.size))
    have HS3 := hid (show w.heap.size + 2 ≤ w1.heap.size by have := hb.size; have := HA3.out; omega)
    clear hb HC HA1 HA2 HA3 HAB
    go_wp2_with fail
    go_loopg [4] (Ty.bulk (Ty.mk k0 n0 ks0)) (fun gq i wr => ∃ (k : Int) (n : ByteArray) (ks : List Ty) (a : Option Addr) (c m : Nat), i = .int .i64 m ∧ Hid (wr.heap[w.heap.size]? = some (.cells #[.int .i64 k, .string n, .slice a ks.length c] 28)) ∧ Hid (wr.heap[w.heap.size + 1]? = some (.cells #[.int .i64 0, .string ⟨#[]⟩, .slice none 0 0] 28)) ∧ Hid (w.heap.size + 2 ≤ wr.heap.size) ∧ Hid (Below w.heap.size w wr) ∧ Hid (Ty.bulk (Ty.mk k n ks) = gq) ∧ Hid (m + Ty.bulk (Ty.mk k n ks) ≤ Ty.bulk (Ty.mk k0 n0 ks0)) ∧ Hid (Ty.good (Ty.mk k n ks) = true) ∧ Hid ((Ty.strip (Ty.mk k n ks)).1 + m = sn ∧ (Ty.strip (Ty.mk k n ks)).2 = Ty.mk rk rn rks) ∧ Hid (RdS w (Ty.d (Ty.mk k n ks)) [.int .i64 k, .string n, .slice a ks.length c]))
    case atStart => exact ⟨k0, n0, ks0, aks0, cks0, 0, rfl, HS0, HS1, HS3, HS2, hid rfl, hid (by omega), HG0, PL0, HR0⟩
    case round =>
      obtain ⟨k1, n1, ks1, aks1, cks1, m, rfl, HX0, HX1, HSZ, HB, HGQ, HLE, HG, HPL, HRS⟩ := hrel
      have hml : m ≤ 1048576 := by have := HLE.out; have := HM0.out; omega
      by_cases h4k : k1 = 4
      case pos =>
        subst h4k
        obtain ⟨x, hx, hgx⟩ := Ty.good_bang HG.out
        obtain ⟨k3, n3, ks3⟩ := x
        subst hx
        obtain ⟨_, _, hks⟩ := HRS.out.fTy
        obtain ⟨_, _, e, h2, h3, h4⟩ := hks.eTy
        simp only [Value.slice.injEq, true_and] at e
        obtain ⟨rfl, rfl⟩ := e
        obtain ⟨b, o, rfl, hbl, hall⟩ := h4 (by simp)
        obtain ⟨aks3, cks3, q0, q1, q2, hrk⟩ := hall 0 k3 n3 ks3 rfl
        have d0 := (HB.out.cell (p := ⟨b, o + 0 * 3, none⟩) hbl).trans q0
        have d1 := (HB.out.cell (p := ⟨b, o + 0 * 3 + 1, none⟩) hbl).trans q1
        have d2 := (HB.out.cell (p := ⟨b, o + 0 * 3 + 2, none⟩) hbl).trans q2
        simp only [Nat.zero_mul, Nat.add_zero] at d0 d1 d2
        have HBS := hid (show Ty.bulk (Ty.mk 4 n1 [Ty.mk k3 n3 ks3]) = n1.size + (1 + Ty.bulk (Ty.mk k3 n3 ks3)) by simp [Ty.bulk, Ty.bulks])
        have HRK := hid hrk
        have HGX := hid hgx
        have e0 : wr.cell? ⟨w.heap.size, 0, none⟩ = some (.int .i64 4) := heap_cell HX0.out (j := 0) rfl
        have e1 : wr.cell? ⟨w.heap.size, 1, none⟩ = some (.string n1) := heap_cell HX0.out (j := 1) rfl
        have e2 : wr.cell? ⟨w.heap.size, 2, none⟩ = some (.slice (some ⟨b, o, none⟩) 1 cks1) := heap_cell HX0.out (j := 2) rfl
        have z0 := heap_free HX0.out 0
        have z1 := heap_free HX0.out 1
        have z2 := heap_free HX0.out 2
        have hpl := HPL.out
        rw [Ty.strip_bang] at hpl
        have HPL2 := hid (show (Ty.strip (Ty.mk k3 n3 ks3)).1 + (m + 1) = sn ∧ (Ty.strip (Ty.mk k3 n3 ks3)).2 = Ty.mk rk rn rks from ⟨by have := hpl.1; simp only at this; omega, hpl.2⟩)
        clear hks h2 h3 h4 hall q0 q1 q2 hrk hgx hpl
        go_wp2_with fail
        go_roundg (Ty.bulk (Ty.mk k3 n3 ks3))
        case rel => exact ⟨k3, n3, ks3, aks3, cks3, m + 1, by go_num, hid (set3 HX0.out _ _ _), hid ((set3_ne _ _ _ (by omega)).trans HX1.out), hid (by have := HSZ.out; simpa [World.setCell] using this), hid (((HB.out.setCell (by simp) _).setCell (by simp) _).setCell (by simp) _), hid rfl, hid (by have := HBS.out; have := HLE.out; omega), HGX, HPL2, HRK⟩
        case measure => have := HBS.out; have := HGQ.out; omega
      case neg =>
        have g4 : (k1 == 4) = false := by simp [h4k]
        have hpl := HPL.out
        rw [Ty.strip_mk h4k] at hpl
        obtain ⟨hm1, hm2⟩ := hpl
        simp only [Nat.zero_add, Ty.mk.injEq] at hm1 hm2
        obtain ⟨rfl, rfl, rfl⟩ := hm2
        subst hm1
        have e0 := heap_cell HX0.out (j := 0) rfl
        have e1 := heap_cell HX0.out (j := 1) rfl
        have e2 := heap_cell HX0.out (j := 2) rfl
        have HI := hid (spec_own k1 n1 ks1 aks1 cks1 wr (by have := HLE.out; have := HM0.out; omega) (HRS.out.below HB.out))
        clear h4k HPL
        go_wp2_with fail
        refine HI.out.mono ?_
        rintro e w2 ⟨a5, c5, rfl, ho5, hb5⟩
        have HX2 := hid ((hb5.block _ (Array.getElem?_eq_some_iff.1 HX1.out).1).trans HX1.out)
        have HB2 := hid (HB.out.trans (hb5.mono HB.out.size))
        have HO5 := hid ho5
        have z0 := heap_free HX2.out 0
        have z1 := heap_free HX2.out 1
        have z2 := heap_free HX2.out 2
        have r0 := heap_cell HX2.out (j := 0) rfl
        have r1 := heap_cell HX2.out (j := 1) rfl
        have r2 := heap_cell HX2.out (j := 2) rfl
        have HS := hid (set3 HX2.out (.int .i64 k1) (.string n1) (.slice a5 ks1.length c5))
        clear hb5 ho5 e0 e1 e2 HI
        go_wp2_with fail
        have hc0 := heap_cell HS.out (j := 0) rfl
        have hc1 := heap_cell HS.out (j := 1) rfl
        have hc2 := heap_cell HS.out (j := 2) rfl
        refine bodyPost_ret (v := .tuple #[.int .i64 m, .agg #[.int .i64 k1, .string n1, .slice a5 ks1.length c5]]) (by simp [results, Try.results16, go_sem, hc0, hc1, hc2]) rfl ?_
        refine ⟨a5, c5, rfl, ?_, ((HB2.out.setCell (by simp) _).setCell (by simp) _).setCell (by simp) _⟩
        exact OwnS.mono (OwnS.keep HO5.out fun x hx _ => set3_ne _ _ _ (by have := HSZ.out; omega)) (by have := HSZ.out; omega)
set_option maxRecDepth 100000 in
set_option maxHeartbeats 4000000 in
theorem impl_StripBangs (k0 : Int) (n0 : ByteArray) (ks0 : List Ty) (aks0 : Option Addr) (cks0 : Nat) (w : World) (hM : Ty.bulk (Ty.mk k0 n0 ks0) ≤ 1048576) (hr : RdS w (Ty.d (Ty.mk k0 n0 ks0)) [.int .i64 k0, .string n0, .slice aks0 ks0.length cks0]) {sn : Nat} {rk : Int} {rn : ByteArray} {rks : List Ty} (he : stripN (Ty.mk k0 n0 ks0) = (sn, Ty.mk rk rn rks)) :
    Calls Try.prog 17 #[.agg #[.int .i64 k0, .string n0, .slice aks0 ks0.length cks0]] w (GivesST sn rk rn rks w) := by
  have hA := alloc2 w (.cells #[.int .i64 k0, .string n0, .slice aks0 ks0.length cks0] 28) (.cells #[.int .i64 0, .string ⟨#[]⟩, .slice none 0 0] 28)
  have HA1 := hid hA.1
  have HA2 := hid hA.2.1
  have HA3 := hid hA.2.2.1
  have HAB := hid hA.2.2.2
  have hc := impl_ValidType k0 n0 ks0 aks0 cks0 _ hM (hr.below hA.2.2.2)
  have HC := hid hc
  have HR0 := hid hr
  have HM0 := hid hM
  clear hA hc hr hM
  by_cases hok : Ty.ok (Ty.mk k0 n0 ks0) = true
  case neg =>
    have hf := (Bool.not_eq_true _).mp hok
    rw [hf] at HC
    have hz : (0, noTy) = (sn, Ty.mk rk rn rks) := (stripN_no hf).symm.trans he
    simp only [noTy, Prod.mk.injEq, Ty.mk.injEq] at hz
    obtain ⟨rfl, rfl, rfl, rfl⟩ := hz
    clear hf hok he
    go_enter Try.func17, Try.ntmps17
    go_wp2_with fail
    refine HC.out.mono ?_
    rintro e w1 ⟨rfl, hb⟩
    have HX := hid ((hb.block _ (Array.getElem?_eq_some_iff.1 HA2.out).1).trans HA2.out)
    have HB := hid (HAB.out.trans (hb.mono HAB.out.size))
    have z0 := heap_free HX.out 0
    have z1 := heap_free HX.out 1
    have z2 := heap_free HX.out 2
    have r0 := heap_cell HX.out (j := 0) rfl
    have r1 := heap_cell HX.out (j := 1) rfl
    have r2 := heap_cell HX.out (j := 2) rfl
    have HS := hid (set3 HX.out (.int .i64 0) (.string ⟨#[]⟩) (.slice none 0 0))
    clear hb
    go_wp2_with fail
    have hc0 := heap_cell HS.out (j := 0) rfl
    have hc1 := heap_cell HS.out (j := 1) rfl
    have hc2 := heap_cell HS.out (j := 2) rfl
    refine bodyPost_ret (v := .tuple #[.int .i64 0, .agg #[.int .i64 0, .string ⟨#[]⟩, .slice none 0 0]]) (by simp [results, Try.results17, go_sem, hc0, hc1, hc2]) rfl ?_
    refine ⟨none, 0, rfl, ?_, ((HB.out.setCell (by simp) _).setCell (by simp) _).setCell (by simp) _⟩
    exact Ty.own_mk (ks := []) (by omega) (by omega) (by decide) ⟨[], Rd.nil_mk (by omega), Owned.nil _ _⟩
  case pos =>
    rw [hok] at HC
    have HG0 := hid (Ty.ok_good hok)
    have hE := (stripN_yes hok).symm.trans he
    have PL0 := hid (show (Ty.strip (Ty.mk k0 n0 ks0)).1 + 0 = sn ∧ (Ty.strip (Ty.mk k0 n0 ks0)).2 = Ty.mk rk rn rks from ⟨by rw [hE]; rfl, by rw [hE]⟩)
    clear hok he hE
    go_enter Try.func17, Try.ntmps17
    go_wp2_with fail
    refine HC.out.mono ?_
    rintro e w1 ⟨rfl, hb⟩
    have HS0 := hid ((hb.block _ (Array.getElem?_eq_some_iff.1 HA1.out).1).trans HA1.out)
    have HS1 := hid ((hb.block _ (Array.getElem?_eq_some_iff.1 HA2.out).1).trans HA2.out)
    have HS2 := hid (HAB.out.trans (hb.mono HAB.out.size))
    have HS3 := hid (show w.heap.size + 2 ≤ w1.heap.size by have := hb.size; have := HA3.out; omega)
    clear hb HC HA1 HA2 HA3 HAB
    go_wp2_with fail
    go_loopg [4] (Ty.bulk (Ty.mk k0 n0 ks0)) (fun gq i wr => ∃ (k : Int) (n : ByteArray) (ks : List Ty) (a : Option Addr) (c m : Nat), i = .int .i64 m ∧ Hid (wr.heap[w.heap.size]? = some (.cells #[.int .i64 k, .string n, .slice a ks.length c] 28)) ∧ Hid (wr.heap[w.heap.size + 1]? = some (.cells #[.int .i64 0, .string ⟨#[]⟩, .slice none 0 0] 28)) ∧ Hid (w.heap.size + 2 ≤ wr.heap.size) ∧ Hid (Below w.heap.size w wr) ∧ Hid (Ty.bulk (Ty.mk k n ks) = gq) ∧ Hid (m + Ty.bulk (Ty.mk k n ks) ≤ Ty.bulk (Ty.mk k0 n0 ks0)) ∧ Hid (Ty.good (Ty.mk k n ks) = true) ∧ Hid ((Ty.strip (Ty.mk k n ks)).1 + m = sn ∧ (Ty.strip (Ty.mk k n ks)).2 = Ty.mk rk rn rks) ∧ Hid (RdS w (Ty.d (Ty.mk k n ks)) [.int .i64 k, .string n, .slice a ks.length c]))
    case atStart => exact ⟨k0, n0, ks0, aks0, cks0, 0, rfl, HS0, HS1, HS3, HS2, hid rfl, hid (by omega), HG0, PL0, HR0⟩
    case round =>
      obtain ⟨k1, n1, ks1, aks1, cks1, m, rfl, HX0, HX1, HSZ, HB, HGQ, HLE, HG, HPL, HRS⟩ := hrel
      have hml : m ≤ 1048576 := by have := HLE.out; have := HM0.out; omega
      by_cases h4k : k1 = 4
      case pos =>
        subst h4k
        obtain ⟨x, hx, hgx⟩ := Ty.good_bang HG.out
        obtain ⟨k3, n3, ks3⟩ := x
        subst hx
        obtain ⟨_, _, hks⟩ := HRS.out.fTy
        obtain ⟨_, _, e, h2, h3, h4⟩ := hks.eTy
        simp only [Value.slice.injEq, true_and] at e
        obtain ⟨rfl, rfl⟩ := e
        obtain ⟨b, o, rfl, hbl, hall⟩ := h4 (by simp)
        obtain ⟨aks3, cks3, q0, q1, q2, hrk⟩ := hall 0 k3 n3 ks3 rfl
        have d0 := (HB.out.cell (p := ⟨b, o + 0 * 3, none⟩) hbl).trans q0
        have d1 := (HB.out.cell (p := ⟨b, o + 0 * 3 + 1, none⟩) hbl).trans q1
        have d2 := (HB.out.cell (p := ⟨b, o + 0 * 3 + 2, none⟩) hbl).trans q2
        simp only [Nat.zero_mul, Nat.add_zero] at d0 d1 d2
        have HBS := hid (show Ty.bulk (Ty.mk 4 n1 [Ty.mk k3 n3 ks3]) = n1.size + (1 + Ty.bulk (Ty.mk k3 n3 ks3)) by simp [Ty.bulk, Ty.bulks])
        have HRK := hid hrk
        have HGX := hid hgx
        have e0 : wr.cell? ⟨w.heap.size, 0, none⟩ = some (.int .i64 4) := heap_cell HX0.out (j := 0) rfl
        have e1 : wr.cell? ⟨w.heap.size, 1, none⟩ = some (.string n1) := heap_cell HX0.out (j := 1) rfl
        have e2 : wr.cell? ⟨w.heap.size, 2, none⟩ = some (.slice (some ⟨b, o, none⟩) 1 cks1) := heap_cell HX0.out (j := 2) rfl
        have z0 := heap_free HX0.out 0
        have z1 := heap_free HX0.out 1
        have z2 := heap_free HX0.out 2
        have hpl := HPL.out
        rw [Ty.strip_bang] at hpl
        have HPL2 := hid (show (Ty.strip (Ty.mk k3 n3 ks3)).1 + (m + 1) = sn ∧ (Ty.strip (Ty.mk k3 n3 ks3)).2 = Ty.mk rk rn rks from ⟨by have := hpl.1; simp only at this; omega, hpl.2⟩)
        clear hks h2 h3 h4 hall q0 q1 q2 hrk hgx hpl
        go_wp2_with fail
        go_roundg (Ty.bulk (Ty.mk k3 n3 ks3))
        case rel => exact ⟨k3, n3, ks3, aks3, cks3, m + 1, by go_num, hid (set3 HX0.out _ _ _), hid ((set3_ne _ _ _ (by omega)).trans HX1.out), hid (by have := HSZ.out; simpa [World.setCell] using this), hid (((HB.out.setCell (by simp) _).setCell (by simp) _).setCell (by simp) _), hid rfl, hid (by have := HBS.out; have := HLE.out; omega), HGX, HPL2, HRK⟩
        case measure => have := HBS.out; have := HGQ.out; omega
      case neg =>
        have g4 : (k1 == 4) = false := by simp [h4k]
        have hpl := HPL.out
        rw [Ty.strip_mk h4k] at hpl
        obtain ⟨hm1, hm2⟩ := hpl
        simp only [Nat.zero_add, Ty.mk.injEq] at hm1 hm2
        obtain ⟨rfl, rfl, rfl⟩ := hm2
        subst hm1
        have e0 := heap_cell HX0.out (j := 0) rfl
        have e1 := heap_cell HX0.out (j := 1) rfl
        have e2 := heap_cell HX0.out (j := 2) rfl
        have HI := hid (impl_copyType k1 n1 ks1 aks1 cks1 wr (by have := HLE.out; have := HM0.out; omega) (HRS.out.below HB.out))
        clear h4k HPL
        go_wp2_with fail
        refine HI.out.mono ?_
        rintro e w2 ⟨a5, c5, rfl, ho5, hb5⟩
        have HX2 := hid ((hb5.block _ (Array.getElem?_eq_some_iff.1 HX1.out).1).trans HX1.out)
        have HB2 := hid (HB.out.trans (hb5.mono HB.out.size))
        have HO5 := hid ho5
        have z0 := heap_free HX2.out 0
        have z1 := heap_free HX2.out 1
        have z2 := heap_free HX2.out 2
        have r0 := heap_cell HX2.out (j := 0) rfl
        have r1 := heap_cell HX2.out (j := 1) rfl
        have r2 := heap_cell HX2.out (j := 2) rfl
        have HS := hid (set3 HX2.out (.int .i64 k1) (.string n1) (.slice a5 ks1.length c5))
        clear hb5 ho5 e0 e1 e2 HI
        go_wp2_with fail
        have hc0 := heap_cell HS.out (j := 0) rfl
        have hc1 := heap_cell HS.out (j := 1) rfl
        have hc2 := heap_cell HS.out (j := 2) rfl
        refine bodyPost_ret (v := .tuple #[.int .i64 m, .agg #[.int .i64 k1, .string n1, .slice a5 ks1.length c5]]) (by simp [results, Try.results17, go_sem, hc0, hc1, hc2]) rfl ?_
        refine ⟨a5, c5, rfl, ?_, ((HB2.out.setCell (by simp) _).setCell (by simp) _).setCell (by simp) _⟩
        exact OwnS.mono (OwnS.keep HO5.out fun x hx _ => set3_ne _ _ _ (by have := HSZ.out; omega)) (by have := HSZ.out; omega)
end Go.Proofs.Ytgpefnlpbjnjbaa
