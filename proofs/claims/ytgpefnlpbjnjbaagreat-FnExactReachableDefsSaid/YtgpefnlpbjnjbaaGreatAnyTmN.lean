/- Walks: anyNode over a function value known by its contract. -/
import Derived.Test.YtgpefnlpbjnjbaaGreatAnyTm
namespace Go.Proofs.YtgpefnlpbjnjbaaGreat
open Go.ChangeShapes Go.WideShapes Go.ChangeAt Go.RowKit
set_option linter.unusedVariables false

mutual
def Tm.anyN (p : Tm → Bool) : Tm → Bool
  | .mk k u n t ns ks => p (.mk k u n t ns ks) || Tm.anyNs p ks
def Tm.anyNs (p : Tm → Bool) : List Tm → Bool
  | [] => false
  | t :: ts => Tm.anyN p t || Tm.anyNs p ts
end
theorem Tm.anyNs_any (p : Tm → Bool) : ∀ ts : List Tm, ts.any (Tm.anyN p) = Tm.anyNs p ts
  | [] => rfl
  | t :: ts => by rw [List.any_cons, Tm.anyNs_any p ts, Tm.anyNs]
/-- The contract of a function value with one captured variable. -/
abbrev FnTm1 (F : FuncId) (q : Value) (p : Tm → Bool) (Ok : Tm → Prop) (Good : World → Prop) (N : Nat) : Prop :=
  ∀ (k1 : Int) (u1 : Int) (n1 : ByteArray) (tk1 : Int) (tn1 : ByteArray) (tks1 : List Ty) (ns1 : List ByteArray) (ks1 : List Tm) (atks1 : Option Addr) (ctks1 : Nat) (ans1 : Option Addr) (cns1 : Nat) (aks1 : Option Addr) (cks1 : Nat) (W : World), Tm.bulk (Tm.mk k1 u1 n1 (Ty.mk tk1 tn1 tks1) ns1 ks1) < N → Ok (Tm.mk k1 u1 n1 (Ty.mk tk1 tn1 tks1) ns1 ks1) → Good W → RdS W (Tm.d (Tm.mk k1 u1 n1 (Ty.mk tk1 tn1 tks1) ns1 ks1)) [.int .i64 k1, .int .i64 u1, .string n1, .int .i64 tk1, .string tn1, .slice atks1 tks1.length ctks1, .slice ans1 ns1.length cns1, .slice aks1 ks1.length cks1] → Calls Tryz.prog F #[.agg #[.int .i64 k1, .int .i64 u1, .string n1, .int .i64 tk1, .string tn1, .slice atks1 tks1.length ctks1, .slice ans1 ns1.length cns1, .slice aks1 ks1.length cks1], q] W fun e w' => e = .returned (.bool (p (Tm.mk k1 u1 n1 (Ty.mk tk1 tn1 tks1) ns1 ks1))) ∧ Below W.heap.size W w'
theorem anyT1_clo (F : FuncId) (q : Value) (p : Tm → Bool) (Ok : Tm → Prop) (Good : World → Prop) (hk : ∀ w w', Below w.heap.size w w' → Good w → Good w') (N : Nat)
    (ih : ∀ (k1 : Int) (u1 : Int) (n1 : ByteArray) (tk1 : Int) (tn1 : ByteArray) (tks1 : List Ty) (ns1 : List ByteArray) (ks1 : List Tm) (atks1 : Option Addr) (ctks1 : Nat) (ans1 : Option Addr) (cns1 : Nat) (aks1 : Option Addr) (cks1 : Nat) (W : World), Tm.bulk (Tm.mk k1 u1 n1 (Ty.mk tk1 tn1 tks1) ns1 ks1) < N → Ok (Tm.mk k1 u1 n1 (Ty.mk tk1 tn1 tks1) ns1 ks1) → Good W → RdS W (Tm.d (Tm.mk k1 u1 n1 (Ty.mk tk1 tn1 tks1) ns1 ks1)) [.int .i64 k1, .int .i64 u1, .string n1, .int .i64 tk1, .string tn1, .slice atks1 tks1.length ctks1, .slice ans1 ns1.length cns1, .slice aks1 ks1.length cks1] → Calls Tryz.prog 36 #[.agg #[.int .i64 k1, .int .i64 u1, .string n1, .int .i64 tk1, .string tn1, .slice atks1 tks1.length ctks1, .slice ans1 ns1.length cns1, .slice aks1 ks1.length cks1], .func (.func F) #[] #[q]] W fun e w' => e = .returned (.bool (Tm.anyN p (Tm.mk k1 u1 n1 (Ty.mk tk1 tn1 tks1) ns1 ks1))) ∧ Below W.heap.size W w')
    (k1 : Int) (u1 : Int) (n1 : ByteArray) (tk1 : Int) (tn1 : ByteArray) (tks1 : List Ty) (ns1 : List ByteArray) (ks1 : List Tm) (atks1 : Option Addr) (ctks1 : Nat) (ans1 : Option Addr) (cns1 : Nat) (aks1 : Option Addr) (cks1 : Nat) (pp : Addr) (w : World) (hN : Tm.bulk (Tm.mk k1 u1 n1 (Ty.mk tk1 tn1 tks1) ns1 ks1) < N) (ho : Ok (Tm.mk k1 u1 n1 (Ty.mk tk1 tn1 tks1) ns1 ks1)) (hg : Good w) (hp : w.cell? pp = some (.func (.func F) #[] #[q])) (hr : RdS w (Tm.d (Tm.mk k1 u1 n1 (Ty.mk tk1 tn1 tks1) ns1 ks1)) [.int .i64 k1, .int .i64 u1, .string n1, .int .i64 tk1, .string tn1, .slice atks1 tks1.length ctks1, .slice ans1 ns1.length cns1, .slice aks1 ks1.length cks1]) :
    Calls Tryz.prog 72 #[.agg #[.int .i64 k1, .int .i64 u1, .string n1, .int .i64 tk1, .string tn1, .slice atks1 tks1.length ctks1, .slice ans1 ns1.length cns1, .slice aks1 ks1.length cks1], .pointer (some pp)] w fun e w' => e = .returned (.bool (Tm.anyN p (Tm.mk k1 u1 n1 (Ty.mk tk1 tn1 tks1) ns1 ks1))) ∧ Below w.heap.size w w' := by
  have hB := (Below.refl w.heap.size w).alloc (Nat.le_refl _) (.cells #[.int .i64 k1, .int .i64 u1, .string n1, .int .i64 tk1, .string tn1, .slice atks1 tks1.length ctks1, .slice ans1 ns1.length cns1, .slice aks1 ks1.length cks1] 63)
  have HC := hid (ih k1 u1 n1 tk1 tn1 tks1 ns1 ks1 atks1 ctks1 ans1 cns1 aks1 cks1 _ hN ho (hk _ _ hB hg) (hr.below hB))
  have hp' := (hB.cell (p := pp) (World.block_lt_of_cell? _ _ hp)).trans hp
  have HB := hid hB
  clear hB hr ih hp hk hg
  go_enter Tryz.func72, Tryz.ntmps72
  go_wp2_with fail
  refine HC.out.mono ?_
  rintro e w1 ⟨rfl, hb⟩
  have HB1 := hid (HB.out.trans (hb.mono HB.out.size))
  clear hb
  go_wp2_with fail
  go_ret
  exact ⟨rfl, HB1.out⟩
set_option maxRecDepth 100000 in
theorem anyT1_step (F : FuncId) (eF : ∀ args (w : World), (callFunc F args).run Tryz.prog w = .ok (.enter F args) w) (q : Value) (p : Tm → Bool) (Ok : Tm → Prop) (Good : World → Prop) (hOk : ∀ (k u : Int) (n : ByteArray) (t : Ty) (ns : List ByteArray) (ks : List Tm) (j : Nat) (x : Tm), Ok (.mk k u n t ns ks) → ks[j]? = some x → Ok x) (hk : ∀ w w', Below w.heap.size w w' → Good w → Good w') (M : Nat) (hF : FnTm1 F q p Ok Good M) (N : Nat) (hNM : N < M)
    (ih : ∀ (k1 : Int) (u1 : Int) (n1 : ByteArray) (tk1 : Int) (tn1 : ByteArray) (tks1 : List Ty) (ns1 : List ByteArray) (ks1 : List Tm) (atks1 : Option Addr) (ctks1 : Nat) (ans1 : Option Addr) (cns1 : Nat) (aks1 : Option Addr) (cks1 : Nat) (W : World), Tm.bulk (Tm.mk k1 u1 n1 (Ty.mk tk1 tn1 tks1) ns1 ks1) < N → Ok (Tm.mk k1 u1 n1 (Ty.mk tk1 tn1 tks1) ns1 ks1) → Good W → RdS W (Tm.d (Tm.mk k1 u1 n1 (Ty.mk tk1 tn1 tks1) ns1 ks1)) [.int .i64 k1, .int .i64 u1, .string n1, .int .i64 tk1, .string tn1, .slice atks1 tks1.length ctks1, .slice ans1 ns1.length cns1, .slice aks1 ks1.length cks1] → Calls Tryz.prog 36 #[.agg #[.int .i64 k1, .int .i64 u1, .string n1, .int .i64 tk1, .string tn1, .slice atks1 tks1.length ctks1, .slice ans1 ns1.length cns1, .slice aks1 ks1.length cks1], .func (.func F) #[] #[q]] W fun e w' => e = .returned (.bool (Tm.anyN p (Tm.mk k1 u1 n1 (Ty.mk tk1 tn1 tks1) ns1 ks1))) ∧ Below W.heap.size W w') :
    ∀ (k1 : Int) (u1 : Int) (n1 : ByteArray) (tk1 : Int) (tn1 : ByteArray) (tks1 : List Ty) (ns1 : List ByteArray) (ks1 : List Tm) (atks1 : Option Addr) (ctks1 : Nat) (ans1 : Option Addr) (cns1 : Nat) (aks1 : Option Addr) (cks1 : Nat) (w : World), Tm.bulk (Tm.mk k1 u1 n1 (Ty.mk tk1 tn1 tks1) ns1 ks1) < N + 1 → Ok (Tm.mk k1 u1 n1 (Ty.mk tk1 tn1 tks1) ns1 ks1) → Good w → RdS w (Tm.d (Tm.mk k1 u1 n1 (Ty.mk tk1 tn1 tks1) ns1 ks1)) [.int .i64 k1, .int .i64 u1, .string n1, .int .i64 tk1, .string tn1, .slice atks1 tks1.length ctks1, .slice ans1 ns1.length cns1, .slice aks1 ks1.length cks1] → Calls Tryz.prog 36 #[.agg #[.int .i64 k1, .int .i64 u1, .string n1, .int .i64 tk1, .string tn1, .slice atks1 tks1.length ctks1, .slice ans1 ns1.length cns1, .slice aks1 ks1.length cks1], .func (.func F) #[] #[q]] w fun e w' => e = .returned (.bool (Tm.anyN p (Tm.mk k1 u1 n1 (Ty.mk tk1 tn1 tks1) ns1 ks1))) ∧ Below w.heap.size w w' := by
  intro k1 u1 n1 tk1 tn1 tks1 ns1 ks1 atks1 ctks1 ans1 cns1 aks1 cks1 w hN ho hg hr
  have hbk : Tm.bulk (Tm.mk k1 u1 n1 (Ty.mk tk1 tn1 tks1) ns1 ks1) = n1.size + Ty.bulk (Ty.mk tk1 tn1 tks1) + Sr.bulks ns1 + Tm.bulks ks1 := rfl
  have HE := hid (show Tm.anyN p (Tm.mk k1 u1 n1 (Ty.mk tk1 tn1 tks1) ns1 ks1) = (p (Tm.mk k1 u1 n1 (Ty.mk tk1 tn1 tks1) ns1 ks1) || Tm.anyNs p ks1) from by rw [Tm.anyN])
  have HX0 := hid (((Boxes.nil w).alloc #[.int .i64 k1, .int .i64 u1, .string n1, .int .i64 tk1, .string tn1, .slice atks1 tks1.length ctks1, .slice ans1 ns1.length cns1, .slice aks1 ks1.length cks1] 63 (0, 0)).alloc #[.func (.func F) #[] #[q]] 68 (0, 0))
  have hB : Below w.heap.size w ((w.alloc (.cells #[.int .i64 k1, .int .i64 u1, .string n1, .int .i64 tk1, .string tn1, .slice atks1 tks1.length ctks1, .slice ans1 ns1.length cns1, .slice aks1 ks1.length cks1] 63)).alloc (.cells #[.func (.func F) #[] #[q]] 68)) := ((Below.refl _ _).alloc (Nat.le_refl _) _).alloc (by simp) _
  have hc := fun W (hW : Below w.heap.size w W) (hp : W.cell? ⟨w.heap.size + 1, 0, none⟩ = some (.func (.func F) #[] #[q])) =>
    contains_Tm_1 72 Tryz.call72 (.pointer (some ⟨w.heap.size + 1, 0, none⟩)) (Tm.anyN p) (fun V => Good V ∧ V.cell? ⟨w.heap.size + 1, 0, none⟩ = some (.func (.func F) #[] #[q]))
      (fun a b hab ⟨h1, h2⟩ => ⟨hk a b hab h1, (hab.cell (p := ⟨w.heap.size + 1, 0, none⟩) (World.block_lt_of_cell? _ _ h2)).trans h2⟩) ks1 aks1 cks1 W ⟨hk _ _ hW hg, hp⟩ (hr.fTm.2.2.2.2.2.below hW)
      (fun k3 u3 n3 tk3 tn3 tks3 ns3 ks3 atks3 ctks3 ans3 cns3 aks3 cks3 j V hj hV hrv => anyT1_clo F q p Ok Good hk N ih k3 u3 n3 tk3 tn3 tks3 ns3 ks3 atks3 ctks3 ans3 cns3 aks3 cks3 _ V (by have := Tm.bulk_get ks1 j _ hj; omega) (hOk _ _ _ _ _ _ _ _ ho hj) hV.1 hV.2 hrv)
  have hv := hF k1 u1 n1 tk1 tn1 tks1 ns1 ks1 atks1 ctks1 ans1 cns1 aks1 cks1 ((w.alloc (.cells #[.int .i64 k1, .int .i64 u1, .string n1, .int .i64 tk1, .string tn1, .slice atks1 tks1.length ctks1, .slice ans1 ns1.length cns1, .slice aks1 ks1.length cks1] 63)).alloc (.cells #[.func (.func F) #[] #[q]] 68)) (by omega) ho (hk _ _ hB hg) (hr.below hB)
  have HB := hid hB
  rw [Tm.anyNs_any] at hc
  have HC := hid hc
  clear hc hr hB ih hbk hN hF hk hg hNM ho hOk
  by_cases hq : p (Tm.mk k1 u1 n1 (Ty.mk tk1 tn1 tks1) ns1 ks1) = true
  case pos =>
    rw [hq] at hv
    have HV := hid hv
    have HQ := hid hq
    clear hv hq HC
    go_enter Tryz.func36, Tryz.ntmps36
    go_wp2_with fail
    refine HV.out.mono ?_
    rintro e w1 ⟨rfl, hb⟩
    have HB1 := hid (HB.out.trans (hb.mono HB.out.size))
    clear hb
    go_wp2_with fail
    go_ret
    exact ⟨ret_bool (by rw [HE.out, HQ.out]; rfl), HB1.out⟩
  case neg =>
    replace hq := (Bool.not_eq_true _).mp hq
    rw [hq] at hv
    have HV := hid hv
    have HQ := hid hq
    clear hv hq
    go_enter Tryz.func36, Tryz.ntmps36
    go_wp2_with fail
    refine HV.out.mono ?_
    rintro e w1 ⟨rfl, hb⟩
    have HB1 := hid (HB.out.trans (hb.mono HB.out.size))
    have HX1 := hid (HX0.out.below hb)
    have g3 := HX1.out.at 1 7 rfl rfl
    have gf := HX1.out.at 0 0 rfl rfl
    simp only [World.size_alloc] at gf
    have GF := hid gf
    clear hb gf
    go_wp2_with fail
    refine (HC.out _ HB1.out GF.out).mono ?_
    rintro e w2 ⟨rfl, hb⟩
    have HB2 := hid (HB1.out.trans (hb.mono HB1.out.size))
    clear hb
    go_wp2_with fail
    go_ret
    exact ⟨ret_bool (by rw [HE.out, HQ.out]; rfl), HB2.out⟩
theorem anyT1_all (F : FuncId) (eF : ∀ args (w : World), (callFunc F args).run Tryz.prog w = .ok (.enter F args) w) (q : Value) (p : Tm → Bool) (Ok : Tm → Prop) (Good : World → Prop) (hOk : ∀ (k u : Int) (n : ByteArray) (t : Ty) (ns : List ByteArray) (ks : List Tm) (j : Nat) (x : Tm), Ok (.mk k u n t ns ks) → ks[j]? = some x → Ok x) (hk : ∀ w w', Below w.heap.size w w' → Good w → Good w') (M : Nat) (hF : FnTm1 F q p Ok Good M) : ∀ N, N ≤ M →
    ∀ (k1 : Int) (u1 : Int) (n1 : ByteArray) (tk1 : Int) (tn1 : ByteArray) (tks1 : List Ty) (ns1 : List ByteArray) (ks1 : List Tm) (atks1 : Option Addr) (ctks1 : Nat) (ans1 : Option Addr) (cns1 : Nat) (aks1 : Option Addr) (cks1 : Nat) (W : World), Tm.bulk (Tm.mk k1 u1 n1 (Ty.mk tk1 tn1 tks1) ns1 ks1) < N → Ok (Tm.mk k1 u1 n1 (Ty.mk tk1 tn1 tks1) ns1 ks1) → Good W → RdS W (Tm.d (Tm.mk k1 u1 n1 (Ty.mk tk1 tn1 tks1) ns1 ks1)) [.int .i64 k1, .int .i64 u1, .string n1, .int .i64 tk1, .string tn1, .slice atks1 tks1.length ctks1, .slice ans1 ns1.length cns1, .slice aks1 ks1.length cks1] → Calls Tryz.prog 36 #[.agg #[.int .i64 k1, .int .i64 u1, .string n1, .int .i64 tk1, .string tn1, .slice atks1 tks1.length ctks1, .slice ans1 ns1.length cns1, .slice aks1 ks1.length cks1], .func (.func F) #[] #[q]] W fun e w' => e = .returned (.bool (Tm.anyN p (Tm.mk k1 u1 n1 (Ty.mk tk1 tn1 tks1) ns1 ks1))) ∧ Below W.heap.size W w'
  | 0, _ => fun _ _ _ _ _ _ _ _ _ _ _ _ _ _ _  h => absurd h (by omega)
  | N + 1, h => anyT1_step F eF q p Ok Good hOk hk M hF N (by omega) (anyT1_all F eF q p Ok Good hOk hk M hF N (by omega))
/-- The contract of a function value with one captured variable. -/
abbrev FnTmb (F : FuncId) (q : Value) (p : Tm → Bool) (Ok : Tm → Prop) (Good : World → Prop) (N : Nat) : Prop :=
  ∀ (k1 : Int) (u1 : Int) (n1 : ByteArray) (tk1 : Int) (tn1 : ByteArray) (tks1 : List Ty) (ns1 : List ByteArray) (ks1 : List Tm) (atks1 : Option Addr) (ctks1 : Nat) (ans1 : Option Addr) (cns1 : Nat) (aks1 : Option Addr) (cks1 : Nat) (W : World), Tm.bulk (Tm.mk k1 u1 n1 (Ty.mk tk1 tn1 tks1) ns1 ks1) < N → Ok (Tm.mk k1 u1 n1 (Ty.mk tk1 tn1 tks1) ns1 ks1) → Good W → RdS W (Tm.d (Tm.mk k1 u1 n1 (Ty.mk tk1 tn1 tks1) ns1 ks1)) [.int .i64 k1, .int .i64 u1, .string n1, .int .i64 tk1, .string tn1, .slice atks1 tks1.length ctks1, .slice ans1 ns1.length cns1, .slice aks1 ks1.length cks1] → Calls Tryz.prog F #[q, .agg #[.int .i64 k1, .int .i64 u1, .string n1, .int .i64 tk1, .string tn1, .slice atks1 tks1.length ctks1, .slice ans1 ns1.length cns1, .slice aks1 ks1.length cks1]] W fun e w' => e = .returned (.bool (p (Tm.mk k1 u1 n1 (Ty.mk tk1 tn1 tks1) ns1 ks1))) ∧ Below W.heap.size W w'
theorem anyTb_clo (F : FuncId) (q : Value) (p : Tm → Bool) (Ok : Tm → Prop) (Good : World → Prop) (hk : ∀ w w', Below w.heap.size w w' → Good w → Good w') (N : Nat)
    (ih : ∀ (k1 : Int) (u1 : Int) (n1 : ByteArray) (tk1 : Int) (tn1 : ByteArray) (tks1 : List Ty) (ns1 : List ByteArray) (ks1 : List Tm) (atks1 : Option Addr) (ctks1 : Nat) (ans1 : Option Addr) (cns1 : Nat) (aks1 : Option Addr) (cks1 : Nat) (W : World), Tm.bulk (Tm.mk k1 u1 n1 (Ty.mk tk1 tn1 tks1) ns1 ks1) < N → Ok (Tm.mk k1 u1 n1 (Ty.mk tk1 tn1 tks1) ns1 ks1) → Good W → RdS W (Tm.d (Tm.mk k1 u1 n1 (Ty.mk tk1 tn1 tks1) ns1 ks1)) [.int .i64 k1, .int .i64 u1, .string n1, .int .i64 tk1, .string tn1, .slice atks1 tks1.length ctks1, .slice ans1 ns1.length cns1, .slice aks1 ks1.length cks1] → Calls Tryz.prog 36 #[.agg #[.int .i64 k1, .int .i64 u1, .string n1, .int .i64 tk1, .string tn1, .slice atks1 tks1.length ctks1, .slice ans1 ns1.length cns1, .slice aks1 ks1.length cks1], .func (.func F) #[q] #[]] W fun e w' => e = .returned (.bool (Tm.anyN p (Tm.mk k1 u1 n1 (Ty.mk tk1 tn1 tks1) ns1 ks1))) ∧ Below W.heap.size W w')
    (k1 : Int) (u1 : Int) (n1 : ByteArray) (tk1 : Int) (tn1 : ByteArray) (tks1 : List Ty) (ns1 : List ByteArray) (ks1 : List Tm) (atks1 : Option Addr) (ctks1 : Nat) (ans1 : Option Addr) (cns1 : Nat) (aks1 : Option Addr) (cks1 : Nat) (pp : Addr) (w : World) (hN : Tm.bulk (Tm.mk k1 u1 n1 (Ty.mk tk1 tn1 tks1) ns1 ks1) < N) (ho : Ok (Tm.mk k1 u1 n1 (Ty.mk tk1 tn1 tks1) ns1 ks1)) (hg : Good w) (hp : w.cell? pp = some (.func (.func F) #[q] #[])) (hr : RdS w (Tm.d (Tm.mk k1 u1 n1 (Ty.mk tk1 tn1 tks1) ns1 ks1)) [.int .i64 k1, .int .i64 u1, .string n1, .int .i64 tk1, .string tn1, .slice atks1 tks1.length ctks1, .slice ans1 ns1.length cns1, .slice aks1 ks1.length cks1]) :
    Calls Tryz.prog 72 #[.agg #[.int .i64 k1, .int .i64 u1, .string n1, .int .i64 tk1, .string tn1, .slice atks1 tks1.length ctks1, .slice ans1 ns1.length cns1, .slice aks1 ks1.length cks1], .pointer (some pp)] w fun e w' => e = .returned (.bool (Tm.anyN p (Tm.mk k1 u1 n1 (Ty.mk tk1 tn1 tks1) ns1 ks1))) ∧ Below w.heap.size w w' := by
  have hB := (Below.refl w.heap.size w).alloc (Nat.le_refl _) (.cells #[.int .i64 k1, .int .i64 u1, .string n1, .int .i64 tk1, .string tn1, .slice atks1 tks1.length ctks1, .slice ans1 ns1.length cns1, .slice aks1 ks1.length cks1] 63)
  have HC := hid (ih k1 u1 n1 tk1 tn1 tks1 ns1 ks1 atks1 ctks1 ans1 cns1 aks1 cks1 _ hN ho (hk _ _ hB hg) (hr.below hB))
  have hp' := (hB.cell (p := pp) (World.block_lt_of_cell? _ _ hp)).trans hp
  have HB := hid hB
  clear hB hr ih hp hk hg
  go_enter Tryz.func72, Tryz.ntmps72
  go_wp2_with fail
  refine HC.out.mono ?_
  rintro e w1 ⟨rfl, hb⟩
  have HB1 := hid (HB.out.trans (hb.mono HB.out.size))
  clear hb
  go_wp2_with fail
  go_ret
  exact ⟨rfl, HB1.out⟩
set_option maxRecDepth 100000 in
theorem anyTb_step (F : FuncId) (eF : ∀ args (w : World), (callFunc F args).run Tryz.prog w = .ok (.enter F args) w) (q : Value) (p : Tm → Bool) (Ok : Tm → Prop) (Good : World → Prop) (hOk : ∀ (k u : Int) (n : ByteArray) (t : Ty) (ns : List ByteArray) (ks : List Tm) (j : Nat) (x : Tm), Ok (.mk k u n t ns ks) → ks[j]? = some x → Ok x) (hk : ∀ w w', Below w.heap.size w w' → Good w → Good w') (M : Nat) (hF : FnTmb F q p Ok Good M) (N : Nat) (hNM : N < M)
    (ih : ∀ (k1 : Int) (u1 : Int) (n1 : ByteArray) (tk1 : Int) (tn1 : ByteArray) (tks1 : List Ty) (ns1 : List ByteArray) (ks1 : List Tm) (atks1 : Option Addr) (ctks1 : Nat) (ans1 : Option Addr) (cns1 : Nat) (aks1 : Option Addr) (cks1 : Nat) (W : World), Tm.bulk (Tm.mk k1 u1 n1 (Ty.mk tk1 tn1 tks1) ns1 ks1) < N → Ok (Tm.mk k1 u1 n1 (Ty.mk tk1 tn1 tks1) ns1 ks1) → Good W → RdS W (Tm.d (Tm.mk k1 u1 n1 (Ty.mk tk1 tn1 tks1) ns1 ks1)) [.int .i64 k1, .int .i64 u1, .string n1, .int .i64 tk1, .string tn1, .slice atks1 tks1.length ctks1, .slice ans1 ns1.length cns1, .slice aks1 ks1.length cks1] → Calls Tryz.prog 36 #[.agg #[.int .i64 k1, .int .i64 u1, .string n1, .int .i64 tk1, .string tn1, .slice atks1 tks1.length ctks1, .slice ans1 ns1.length cns1, .slice aks1 ks1.length cks1], .func (.func F) #[q] #[]] W fun e w' => e = .returned (.bool (Tm.anyN p (Tm.mk k1 u1 n1 (Ty.mk tk1 tn1 tks1) ns1 ks1))) ∧ Below W.heap.size W w') :
    ∀ (k1 : Int) (u1 : Int) (n1 : ByteArray) (tk1 : Int) (tn1 : ByteArray) (tks1 : List Ty) (ns1 : List ByteArray) (ks1 : List Tm) (atks1 : Option Addr) (ctks1 : Nat) (ans1 : Option Addr) (cns1 : Nat) (aks1 : Option Addr) (cks1 : Nat) (w : World), Tm.bulk (Tm.mk k1 u1 n1 (Ty.mk tk1 tn1 tks1) ns1 ks1) < N + 1 → Ok (Tm.mk k1 u1 n1 (Ty.mk tk1 tn1 tks1) ns1 ks1) → Good w → RdS w (Tm.d (Tm.mk k1 u1 n1 (Ty.mk tk1 tn1 tks1) ns1 ks1)) [.int .i64 k1, .int .i64 u1, .string n1, .int .i64 tk1, .string tn1, .slice atks1 tks1.length ctks1, .slice ans1 ns1.length cns1, .slice aks1 ks1.length cks1] → Calls Tryz.prog 36 #[.agg #[.int .i64 k1, .int .i64 u1, .string n1, .int .i64 tk1, .string tn1, .slice atks1 tks1.length ctks1, .slice ans1 ns1.length cns1, .slice aks1 ks1.length cks1], .func (.func F) #[q] #[]] w fun e w' => e = .returned (.bool (Tm.anyN p (Tm.mk k1 u1 n1 (Ty.mk tk1 tn1 tks1) ns1 ks1))) ∧ Below w.heap.size w w' := by
  intro k1 u1 n1 tk1 tn1 tks1 ns1 ks1 atks1 ctks1 ans1 cns1 aks1 cks1 w hN ho hg hr
  have hbk : Tm.bulk (Tm.mk k1 u1 n1 (Ty.mk tk1 tn1 tks1) ns1 ks1) = n1.size + Ty.bulk (Ty.mk tk1 tn1 tks1) + Sr.bulks ns1 + Tm.bulks ks1 := rfl
  have HE := hid (show Tm.anyN p (Tm.mk k1 u1 n1 (Ty.mk tk1 tn1 tks1) ns1 ks1) = (p (Tm.mk k1 u1 n1 (Ty.mk tk1 tn1 tks1) ns1 ks1) || Tm.anyNs p ks1) from by rw [Tm.anyN])
  have HX0 := hid (((Boxes.nil w).alloc #[.int .i64 k1, .int .i64 u1, .string n1, .int .i64 tk1, .string tn1, .slice atks1 tks1.length ctks1, .slice ans1 ns1.length cns1, .slice aks1 ks1.length cks1] 63 (0, 0)).alloc #[.func (.func F) #[q] #[]] 68 (0, 0))
  have hB : Below w.heap.size w ((w.alloc (.cells #[.int .i64 k1, .int .i64 u1, .string n1, .int .i64 tk1, .string tn1, .slice atks1 tks1.length ctks1, .slice ans1 ns1.length cns1, .slice aks1 ks1.length cks1] 63)).alloc (.cells #[.func (.func F) #[q] #[]] 68)) := ((Below.refl _ _).alloc (Nat.le_refl _) _).alloc (by simp) _
  have hc := fun W (hW : Below w.heap.size w W) (hp : W.cell? ⟨w.heap.size + 1, 0, none⟩ = some (.func (.func F) #[q] #[])) =>
    contains_Tm_1 72 Tryz.call72 (.pointer (some ⟨w.heap.size + 1, 0, none⟩)) (Tm.anyN p) (fun V => Good V ∧ V.cell? ⟨w.heap.size + 1, 0, none⟩ = some (.func (.func F) #[q] #[]))
      (fun a b hab ⟨h1, h2⟩ => ⟨hk a b hab h1, (hab.cell (p := ⟨w.heap.size + 1, 0, none⟩) (World.block_lt_of_cell? _ _ h2)).trans h2⟩) ks1 aks1 cks1 W ⟨hk _ _ hW hg, hp⟩ (hr.fTm.2.2.2.2.2.below hW)
      (fun k3 u3 n3 tk3 tn3 tks3 ns3 ks3 atks3 ctks3 ans3 cns3 aks3 cks3 j V hj hV hrv => anyTb_clo F q p Ok Good hk N ih k3 u3 n3 tk3 tn3 tks3 ns3 ks3 atks3 ctks3 ans3 cns3 aks3 cks3 _ V (by have := Tm.bulk_get ks1 j _ hj; omega) (hOk _ _ _ _ _ _ _ _ ho hj) hV.1 hV.2 hrv)
  have hv := hF k1 u1 n1 tk1 tn1 tks1 ns1 ks1 atks1 ctks1 ans1 cns1 aks1 cks1 ((w.alloc (.cells #[.int .i64 k1, .int .i64 u1, .string n1, .int .i64 tk1, .string tn1, .slice atks1 tks1.length ctks1, .slice ans1 ns1.length cns1, .slice aks1 ks1.length cks1] 63)).alloc (.cells #[.func (.func F) #[q] #[]] 68)) (by omega) ho (hk _ _ hB hg) (hr.below hB)
  have HB := hid hB
  rw [Tm.anyNs_any] at hc
  have HC := hid hc
  clear hc hr hB ih hbk hN hF hk hg hNM ho hOk
  by_cases hq : p (Tm.mk k1 u1 n1 (Ty.mk tk1 tn1 tks1) ns1 ks1) = true
  case pos =>
    rw [hq] at hv
    have HV := hid hv
    have HQ := hid hq
    clear hv hq HC
    go_enter Tryz.func36, Tryz.ntmps36
    go_wp2_with fail
    refine HV.out.mono ?_
    rintro e w1 ⟨rfl, hb⟩
    have HB1 := hid (HB.out.trans (hb.mono HB.out.size))
    clear hb
    go_wp2_with fail
    go_ret
    exact ⟨ret_bool (by rw [HE.out, HQ.out]; rfl), HB1.out⟩
  case neg =>
    replace hq := (Bool.not_eq_true _).mp hq
    rw [hq] at hv
    have HV := hid hv
    have HQ := hid hq
    clear hv hq
    go_enter Tryz.func36, Tryz.ntmps36
    go_wp2_with fail
    refine HV.out.mono ?_
    rintro e w1 ⟨rfl, hb⟩
    have HB1 := hid (HB.out.trans (hb.mono HB.out.size))
    have HX1 := hid (HX0.out.below hb)
    have g3 := HX1.out.at 1 7 rfl rfl
    have gf := HX1.out.at 0 0 rfl rfl
    simp only [World.size_alloc] at gf
    have GF := hid gf
    clear hb gf
    go_wp2_with fail
    refine (HC.out _ HB1.out GF.out).mono ?_
    rintro e w2 ⟨rfl, hb⟩
    have HB2 := hid (HB1.out.trans (hb.mono HB1.out.size))
    clear hb
    go_wp2_with fail
    go_ret
    exact ⟨ret_bool (by rw [HE.out, HQ.out]; rfl), HB2.out⟩
theorem anyTb_all (F : FuncId) (eF : ∀ args (w : World), (callFunc F args).run Tryz.prog w = .ok (.enter F args) w) (q : Value) (p : Tm → Bool) (Ok : Tm → Prop) (Good : World → Prop) (hOk : ∀ (k u : Int) (n : ByteArray) (t : Ty) (ns : List ByteArray) (ks : List Tm) (j : Nat) (x : Tm), Ok (.mk k u n t ns ks) → ks[j]? = some x → Ok x) (hk : ∀ w w', Below w.heap.size w w' → Good w → Good w') (M : Nat) (hF : FnTmb F q p Ok Good M) : ∀ N, N ≤ M →
    ∀ (k1 : Int) (u1 : Int) (n1 : ByteArray) (tk1 : Int) (tn1 : ByteArray) (tks1 : List Ty) (ns1 : List ByteArray) (ks1 : List Tm) (atks1 : Option Addr) (ctks1 : Nat) (ans1 : Option Addr) (cns1 : Nat) (aks1 : Option Addr) (cks1 : Nat) (W : World), Tm.bulk (Tm.mk k1 u1 n1 (Ty.mk tk1 tn1 tks1) ns1 ks1) < N → Ok (Tm.mk k1 u1 n1 (Ty.mk tk1 tn1 tks1) ns1 ks1) → Good W → RdS W (Tm.d (Tm.mk k1 u1 n1 (Ty.mk tk1 tn1 tks1) ns1 ks1)) [.int .i64 k1, .int .i64 u1, .string n1, .int .i64 tk1, .string tn1, .slice atks1 tks1.length ctks1, .slice ans1 ns1.length cns1, .slice aks1 ks1.length cks1] → Calls Tryz.prog 36 #[.agg #[.int .i64 k1, .int .i64 u1, .string n1, .int .i64 tk1, .string tn1, .slice atks1 tks1.length ctks1, .slice ans1 ns1.length cns1, .slice aks1 ks1.length cks1], .func (.func F) #[q] #[]] W fun e w' => e = .returned (.bool (Tm.anyN p (Tm.mk k1 u1 n1 (Ty.mk tk1 tn1 tks1) ns1 ks1))) ∧ Below W.heap.size W w'
  | 0, _ => fun _ _ _ _ _ _ _ _ _ _ _ _ _ _ _  h => absurd h (by omega)
  | N + 1, h => anyTb_step F eF q p Ok Good hOk hk M hF N (by omega) (anyTb_all F eF q p Ok Good hOk hk M hF N (by omega))
end Go.Proofs.YtgpefnlpbjnjbaaGreat
