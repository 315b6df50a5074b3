/- Walks: marks in types and terms by value; marks read again. -/
import Derived.Test.YtdcifcfkjhpokaaMkTm
import Derived.Lib.QuietBelow
namespace Go.Proofs.Ytdcifcfkjhpokaa
open Go.ChangeShapes Go.WideShapes Go.ChangeAt Go.RowKit
set_option linter.unusedVariables false

mutual
theorem Ty.num_le : ∀ t : Ty, D.num (Ty.d t) ≤ 2 + 2 * Ty.bulk t
  | .mk k n ks => by
    have h_ks := Ty.nums_le ks
    simp only [Ty.d, D.num, D.nums, Ty.bulk] at *
    omega
theorem Ty.nums_le : ∀ ts : List Ty, D.nums (Ty.ds ts) ≤ 2 * Ty.bulks ts
  | [] => by simp [Ty.ds, D.nums]
  | t :: ts => by have h1 := Ty.num_le t; have h2 := Ty.nums_le ts; simp only [Ty.ds, D.nums, Ty.bulks]; omega
end
mutual
theorem Tm.num_le : ∀ t : Tm, D.num (Tm.d t) ≤ 5 + 5 * Tm.bulk t
  | .mk k u n (Ty.mk tk tn tks) ns ks => by
    have h_tks := Ty.nums_le tks
    have h_ns := nums_Sr ns
    have g_ns := Sr.bulks_length ns
    have h_ks := Tm.nums_le ks
    simp only [Tm.d, D.num, D.nums, Tm.bulk, Ty.d, Ty.bulk] at *
    omega
theorem Tm.nums_le : ∀ ts : List Tm, D.nums (Tm.ds ts) ≤ 5 * Tm.bulks ts
  | [] => by simp [Tm.ds, D.nums]
  | t :: ts => by have h1 := Tm.num_le t; have h2 := Tm.nums_le ts; simp only [Tm.ds, D.nums, Tm.bulks]; omega
end
theorem Rd.parts_Ty {w : World} {k : Int} {n : ByteArray} {ks : List Ty} {aks : Option Addr} {cks : Nat} {F : List Nat} (h : Rd w (Ty.d (Ty.mk k n ks)) [.int .i64 k, .string n, .slice aks ks.length cks] F) : ∃ P2, F = P2 ∧ Rd w (.list (Ty.ds ks)) [.slice aks ks.length cks] P2 := by
  obtain ⟨e0, r0, F0, G0, x0, rfl, g0, k0⟩ := h.struct_inv.cons_inv
  have l0 := g0.length
  obtain ⟨e1, r1, F1, G1, x1, rfl, g1, k1⟩ := k0.cons_inv
  have l1 := g1.length
  obtain ⟨e2, r2, F2, G2, x2, rfl, g2, k2⟩ := k1.cons_inv
  have l2 := g2.length
  obtain ⟨xr, xg⟩ := RdAll.nil_inv k2
  simp only [D.len] at l0 l1 l2
  match e0, l0 with
  | [y0_0], _ =>
  simp only [List.cons_append, List.nil_append, List.cons.injEq] at x0
  obtain ⟨rfl, x0'⟩ := x0
  subst x0'
  match e1, l1 with
  | [y1_0], _ =>
  simp only [List.cons_append, List.nil_append, List.cons.injEq] at x1
  obtain ⟨rfl, x1'⟩ := x1
  subst x1'
  match e2, l2 with
  | [y2_0], _ =>
  simp only [List.cons_append, List.nil_append, List.cons.injEq] at x2
  obtain ⟨rfl, x2'⟩ := x2
  subst x2'
  obtain rfl := g0.int_inv.2.1
  obtain rfl := g1.str_inv.2.1
  subst xg
  exact ⟨F2, by simp, g2⟩
theorem Rd.parts_Tm {w : World} {k : Int} {u : Int} {n : ByteArray} {tk : Int} {tn : ByteArray} {tks : List Ty} {ns : List ByteArray} {ks : List Tm} {atks : Option Addr} {ctks : Nat} {ans : Option Addr} {cns : Nat} {aks : Option Addr} {cks : Nat} {F : List Nat} (h : Rd w (Tm.d (Tm.mk k u n (Ty.mk tk tn tks) ns ks)) [.int .i64 k, .int .i64 u, .string n, .int .i64 tk, .string tn, .slice atks tks.length ctks, .slice ans ns.length cns, .slice aks ks.length cks] F) : ∃ P3 P4 P5, F = P3 ++ (P4 ++ P5) ∧ Rd w (Ty.d (Ty.mk tk tn tks)) [.int .i64 tk, .string tn, .slice atks tks.length ctks] P3 ∧ Rd w (.list (Sr.ds ns)) [.slice ans ns.length cns] P4 ∧ Rd w (.list (Tm.ds ks)) [.slice aks ks.length cks] P5 := by
  obtain ⟨e0, r0, F0, G0, x0, rfl, g0, k0⟩ := h.struct_inv.cons_inv
  have l0 := g0.length
  obtain ⟨e1, r1, F1, G1, x1, rfl, g1, k1⟩ := k0.cons_inv
  have l1 := g1.length
  obtain ⟨e2, r2, F2, G2, x2, rfl, g2, k2⟩ := k1.cons_inv
  have l2 := g2.length
  obtain ⟨e3, r3, F3, G3, x3, rfl, g3, k3⟩ := k2.cons_inv
  have l3 := g3.length
  obtain ⟨e4, r4, F4, G4, x4, rfl, g4, k4⟩ := k3.cons_inv
  have l4 := g4.length
  obtain ⟨e5, r5, F5, G5, x5, rfl, g5, k5⟩ := k4.cons_inv
  have l5 := g5.length
  obtain ⟨xr, xg⟩ := RdAll.nil_inv k5
  simp only [D.len] at l0 l1 l2 l4 l5
  rw [Ty.d_len] at l3
  match e0, l0 with
  | [y0_0], _ =>
  simp only [List.cons_append, List.nil_append, List.cons.injEq] at x0
  obtain ⟨rfl, x0'⟩ := x0
  subst x0'
  match e1, l1 with
  | [y1_0], _ =>
  simp only [List.cons_append, List.nil_append, List.cons.injEq] at x1
  obtain ⟨rfl, x1'⟩ := x1
  subst x1'
  match e2, l2 with
  | [y2_0], _ =>
  simp only [List.cons_append, List.nil_append, List.cons.injEq] at x2
  obtain ⟨rfl, x2'⟩ := x2
  subst x2'
  match e3, l3 with
  | [y3_0, y3_1, y3_2], _ =>
  simp only [List.cons_append, List.nil_append, List.cons.injEq] at x3
  obtain ⟨rfl, rfl, rfl, x3'⟩ := x3
  subst x3'
  match e4, l4 with
  | [y4_0], _ =>
  simp only [List.cons_append, List.nil_append, List.cons.injEq] at x4
  obtain ⟨rfl, x4'⟩ := x4
  subst x4'
  match e5, l5 with
  | [y5_0], _ =>
  simp only [List.cons_append, List.nil_append, List.cons.injEq] at x5
  obtain ⟨rfl, x5'⟩ := x5
  subst x5'
  obtain rfl := g0.int_inv.2.1
  obtain rfl := g1.int_inv.2.1
  obtain rfl := g2.str_inv.2.1
  subst xg
  exact ⟨F3, F4, F5, by simp, g3, g4, g5⟩
set_option maxHeartbeats 1000000 in
theorem markTy_in (k1 : Int) (n1 : ByteArray) (ks1 : List Ty) (aks1 : Option Addr) (cks1 : Nat) (F : List Nat) (k : Nat) (w : World) (hM : Ty.bulk (Ty.mk k1 n1 ks1) ≤ 1048576) (hk : k ≤ 549755813888) (hr : Rd w (Ty.d (Ty.mk k1 n1 ks1)) [.int .i64 k1, .string n1, .slice aks1 ks1.length cks1] F) (ho : Owned w 0 F) :
    Calls Try.prog 65 #[.agg #[.int .i64 k1, .string n1, .slice aks1 ks1.length cks1], .int .i64 k] w fun e w' => ∃ r : Nat, e = .returned (.int .i64 r) ∧ r ≤ k + 2 * Ty.bulk (Ty.mk k1 n1 ks1) ∧ Mk F w w' := by
  have hbk : Ty.bulk (Ty.mk k1 n1 ks1) = n1.size + Ty.bulks ks1 := rfl
  have hlt := hr.lt
  obtain ⟨P2, hPF, p2⟩ := hr.parts_Ty
  obtain rfl := hPF.symm
  have hB := (Below.refl w.heap.size w).alloc (Nat.le_refl _) (.cells #[.int .i64 k1, .string n1, .slice aks1 ks1.length cks1] 33)
  have hx0 := (Boxes.nil w).alloc #[.int .i64 k1, .string n1, .slice aks1 ks1.length cks1] 33 (0, 0)
  generalize hw1 : w.alloc (.cells #[.int .i64 k1, .string n1, .slice aks1 ks1.length cks1] 33) = w1 at hB hx0
  have hnd := ho.1
  have ho1 := ho.keep (w' := w1) fun x hx => hB.block x (hlt x hx)
  have q2 := p2.below hB
  have ow2 : Owned w1 0 P2 := ⟨hnd, fun x hx => ho1.2 x (by simp [hx])⟩
  have HX0 := hid hx0
  have HBx := hid (fun x (hx : x ∈ P2) => hlt x hx)
  have HB := hid hB
  have hn2 := Ty.nums_le ks1
  have hg2 := Ty.bulks_length ks1
  have hc2 := markTys ks1 aks1 cks1 P2 k w1 (by omega) (by omega) q2 ow2
  obtain ⟨r2, hr2⟩ : ∃ r, r = k + D.nums (Ty.ds ks1) := ⟨_, rfl⟩
  unfold MkPost at hc2
  rw [← hr2] at hc2
  have HC2 := hid hc2
  clear hc2
  have hr2b : r2 ≤ k + 2 * Ty.bulks ks1 := by omega
  have HRX2 := hid hr2
  clear hr2
  subst hw1
  go_enter Try.func65, Try.ntmps65
  go_wp2_with fail
  refine HC2.out.mono ?_
  rintro e u2 ⟨rfl, _, hm⟩
  have MM := hid hm
  have HX1 := hid (Boxes.mk HX0.out hm (fun p hp hy => by
    have : p.1 = w.heap.size := by simpa using congrArg Prod.fst (List.mem_singleton.1 hp)
    have := HBx.out p.1 (by simp [hy]); omega))
  have HM1 := hid (hm.mono (F := P2) fun x hx => by simp [hx])
  clear hm
  go_wp2_with fail
  go_ret
  exact ⟨r2, rfl, by omega, (Mk.of_below HB.out).trans HM1.out⟩
set_option maxHeartbeats 1000000 in
theorem markTm_in (k1 : Int) (u1 : Int) (n1 : ByteArray) (tk1 : Int) (tn1 : ByteArray) (tks1 : List Ty) (ns1 : List ByteArray) (ks1 : List Tm) (atks1 : Option Addr) (ctks1 : Nat) (ans1 : Option Addr) (cns1 : Nat) (aks1 : Option Addr) (cks1 : Nat) (F : List Nat) (k : Nat) (w : World) (hM : Tm.bulk (Tm.mk k1 u1 n1 (Ty.mk tk1 tn1 tks1) ns1 ks1) ≤ 1048576) (hk : k ≤ 549755813888) (hr : Rd w (Tm.d (Tm.mk k1 u1 n1 (Ty.mk tk1 tn1 tks1) ns1 ks1)) [.int .i64 k1, .int .i64 u1, .string n1, .int .i64 tk1, .string tn1, .slice atks1 tks1.length ctks1, .slice ans1 ns1.length cns1, .slice aks1 ks1.length cks1] F) (ho : Owned w 0 F) :
    Calls Try.prog 29 #[.agg #[.int .i64 k1, .int .i64 u1, .string n1, .int .i64 tk1, .string tn1, .slice atks1 tks1.length ctks1, .slice ans1 ns1.length cns1, .slice aks1 ks1.length cks1], .int .i64 k] w fun e w' => ∃ r : Nat, e = .returned (.int .i64 r) ∧ r ≤ k + 5 * Tm.bulk (Tm.mk k1 u1 n1 (Ty.mk tk1 tn1 tks1) ns1 ks1) ∧ Mk F w w' := by
  have hbk : Tm.bulk (Tm.mk k1 u1 n1 (Ty.mk tk1 tn1 tks1) ns1 ks1) = n1.size + Ty.bulk (Ty.mk tk1 tn1 tks1) + Sr.bulks ns1 + Tm.bulks ks1 := rfl
  have hlt := hr.lt
  obtain ⟨P3, P4, P5, rfl, p3, p4, p5⟩ := hr.parts_Tm
  have hB := (Below.refl w.heap.size w).alloc (Nat.le_refl _) (.cells #[.int .i64 k1, .int .i64 u1, .string n1, .int .i64 tk1, .string tn1, .slice atks1 tks1.length ctks1, .slice ans1 ns1.length cns1, .slice aks1 ks1.length cks1] 36)
  have hx0 := (Boxes.nil w).alloc #[.int .i64 k1, .int .i64 u1, .string n1, .int .i64 tk1, .string tn1, .slice atks1 tks1.length ctks1, .slice ans1 ns1.length cns1, .slice aks1 ks1.length cks1] 36 (0, 0)
  generalize hw1 : w.alloc (.cells #[.int .i64 k1, .int .i64 u1, .string n1, .int .i64 tk1, .string tn1, .slice atks1 tks1.length ctks1, .slice ans1 ns1.length cns1, .slice aks1 ks1.length cks1] 36) = w1 at hB hx0
  have hnd := ho.1
  have ho1 := ho.keep (w' := w1) fun x hx => hB.block x (hlt x hx)
  have q3 := p3.below hB
  have q4 := p4.below hB
  have q5 := p5.below hB
  have nd0 := List.nodup_append.1 hnd
  have nd1 := List.nodup_append.1 nd0.2.1
  have ow3 : Owned w1 0 P3 := ⟨nd0.1, fun x hx => ho1.2 x (by simp [hx])⟩
  have ow4 : Owned w1 0 P4 := ⟨nd1.1, fun x hx => ho1.2 x (by simp [hx])⟩
  have ow5 : Owned w1 0 P5 := ⟨nd1.2.1, fun x hx => ho1.2 x (by simp [hx])⟩
  have HX0 := hid hx0
  have HBx := hid (fun x (hx : x ∈ P3 ++ (P4 ++ P5)) => hlt x hx)
  have HB := hid hB
  have hc3 := markTy_in tk1 tn1 tks1 atks1 ctks1 P3 k w1 (by omega) (by omega) q3 ow3
  have HC3 := hid hc3
  clear hc3
  subst hw1
  go_enter Try.func29, Try.ntmps29
  go_wp2_with fail
  refine HC3.out.mono ?_
  rintro e u3 ⟨r3, rfl, hr3, hm⟩
  have MM := hid hm
  have q4 := hm.rd q4 (fun x hx hy => nd0.2.2 x hy x (by simp [hx]) rfl)
  have ow4 := hm.own ow4
  have q5 := hm.rd q5 (fun x hx hy => nd0.2.2 x hy x (by simp [hx]) rfl)
  have ow5 := hm.own ow5
  have HX1 := hid (Boxes.mk HX0.out hm (fun p hp hy => by
    have : p.1 = w.heap.size := by simpa using congrArg Prod.fst (List.mem_singleton.1 hp)
    have := HBx.out p.1 (by simp [hy]); omega))
  have HM1 := hid (hm.mono (F := P3 ++ (P4 ++ P5)) fun x hx => by simp [hx])
  clear hm
  have g1_0 := HX1.out.at 0 0 rfl rfl
  have g1_1 := HX1.out.at 0 1 rfl rfl
  have g1_2 := HX1.out.at 0 2 rfl rfl
  have g1_3 := HX1.out.at 0 3 rfl rfl
  have g1_4 := HX1.out.at 0 4 rfl rfl
  have g1_5 := HX1.out.at 0 5 rfl rfl
  have g1_6 := HX1.out.at 0 6 rfl rfl
  have g1_7 := HX1.out.at 0 7 rfl rfl
  have hn4 := nums_Sr ns1
  have hg4 := Sr.bulks_length ns1
  have hc4 := markSrs ns1 ans1 cns1 P4 r3 u3 (by omega) (by omega) q4 ow4
  obtain ⟨r4, hr4⟩ : ∃ r, r = r3 + D.nums (Sr.ds ns1) := ⟨_, rfl⟩
  unfold MkPost at hc4
  rw [← hr4] at hc4
  have HC4 := hid hc4
  clear hc4
  have hr4b : r4 ≤ r3 + 5 * Sr.bulks ns1 := by omega
  have HRX4 := hid hr4
  clear hr4
  go_wp2_with fail
  refine HC4.out.mono ?_
  rintro e u4 ⟨rfl, _, hm⟩
  have q5 := hm.rd q5 (fun x hx hy => nd1.2.2 x hy x (by simp [hx]) rfl)
  have ow5 := hm.own ow5
  have HX2 := hid (Boxes.mk HX1.out hm (fun p hp hy => by
    have : p.1 = w.heap.size := by simpa using congrArg Prod.fst (List.mem_singleton.1 hp)
    have := HBx.out p.1 (by simp [hy]); omega))
  have HM2 := hid (HM1.out.trans (hm.mono fun x hx => by simp [hx]))
  clear hm
  clear g1_0 g1_1 g1_2 g1_3 g1_4 g1_5 g1_6 g1_7
  have g2_0 := HX2.out.at 0 0 rfl rfl
  have g2_1 := HX2.out.at 0 1 rfl rfl
  have g2_2 := HX2.out.at 0 2 rfl rfl
  have g2_3 := HX2.out.at 0 3 rfl rfl
  have g2_4 := HX2.out.at 0 4 rfl rfl
  have g2_5 := HX2.out.at 0 5 rfl rfl
  have g2_6 := HX2.out.at 0 6 rfl rfl
  have g2_7 := HX2.out.at 0 7 rfl rfl
  have hn5 := Tm.nums_le ks1
  have hg5 := Tm.bulks_length ks1
  have hc5 := markTms ks1 aks1 cks1 P5 r4 u4 (by omega) (by omega) q5 ow5
  obtain ⟨r5, hr5⟩ : ∃ r, r = r4 + D.nums (Tm.ds ks1) := ⟨_, rfl⟩
  unfold MkPost at hc5
  rw [← hr5] at hc5
  have HC5 := hid hc5
  clear hc5
  have hr5b : r5 ≤ r4 + 5 * Tm.bulks ks1 := by omega
  have HRX5 := hid hr5
  clear hr5
  go_wp2_with fail
  refine HC5.out.mono ?_
  rintro e u5 ⟨rfl, _, hm⟩
  have HX3 := hid (Boxes.mk HX2.out hm (fun p hp hy => by
    have : p.1 = w.heap.size := by simpa using congrArg Prod.fst (List.mem_singleton.1 hp)
    have := HBx.out p.1 (by simp [hy]); omega))
  have HM3 := hid (HM2.out.trans (hm.mono fun x hx => by simp [hx]))
  clear hm
  clear g2_0 g2_1 g2_2 g2_3 g2_4 g2_5 g2_6 g2_7
  go_wp2_with fail
  go_ret
  exact ⟨r5, rfl, by omega, (Mk.of_below HB.out).trans HM3.out⟩
theorem heldIns (L0 : List Int) (a : Option Addr) (c : Nat) (k : Nat) (w : World) (hk : k + L0.length ≤ 1099511627776) (hr : RdL w (D.marks k (In.ds L0)) (.slice a L0.length c)) :
    Calls Try.prog 36 #[.slice a L0.length c, .int .i64 k] w fun e w' => e = .returned (.int .i64 (k + L0.length : Nat)) ∧ w = w' := by
  rw [marks_In] at hr
  obtain ⟨a', c', e, h2, h3, h4⟩ := hr.eIn
  rw [iotaI_length] at e h2 h4
  simp only [Value.slice.injEq, true_and] at e
  obtain ⟨rfl, rfl⟩ := e
  have H4 := hid h4
  have HIO := hid (iotaI_get L0.length k)
  clear hr h4
  go_enter Try.func36, Try.ntmps36
  go_wp2_with fail
  go_loopw [1, 5] (fun q i wr => ∃ (j m : Nat), j ≤ L0.length ∧ i = .int .i64 j ∧ q = .int .i64 m ∧ Hid (m = k + j) ∧ w = wr) (fun _ i _ => L0.length - (intOf i).toNat)
  case atStart => exact ⟨0, k, by omega, rfl, rfl, rfl, rfl⟩
  case round =>
    obtain ⟨j, m, hj, rfl, rfl, HM, rfl⟩ := hrel
    have hm : m ≤ 1099511627776 := by have := HM.out; omega
    by_cases hlt : j < L0.length
    case neg =>
      have HE := hid (show m = k + L0.length by have := HM.out; omega)
      go_wp2_with fail
      go_ret
      exact ⟨by rw [← HE.out]; rfl, rfl⟩
    case pos =>
      obtain ⟨b, o, rfl, hbl, hall⟩ := H4.out (by omega)
      have q0 := (hall j _ (HIO.out j hlt)).1
      rw [← HM.out] at q0
      clear hall H4
      go_wp2_with fail
      go_roundw
      case rel => exact ⟨j + 1, m + 1, by omega, by go_num, by go_num, hid (by have := HM.out; omega), by first | rfl | trivial⟩
      case measure => simp [intOf]; omega
end Go.Proofs.Ytdcifcfkjhpokaa
