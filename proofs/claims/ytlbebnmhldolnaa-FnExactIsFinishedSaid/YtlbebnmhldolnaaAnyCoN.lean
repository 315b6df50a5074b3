/- Walks: anyCore over a function value known by its contract. -/
import Derived.Test.YtlbebnmhldolnaaAnyCo
namespace Go.Proofs.Ytlbebnmhldolnaa
open Go.ChangeShapes Go.WideShapes Go.ChangeAt Go.RowKit
set_option linter.unusedVariables false

mutual
def Co.anyN (p : Co → Bool) : Co → Bool
  | .mk k v ds ks => p (.mk k v ds ks) || Co.anyNs p ks
def Co.anyNs (p : Co → Bool) : List Co → Bool
  | [] => false
  | t :: ts => Co.anyN p t || Co.anyNs p ts
end
theorem Co.anyNs_any (p : Co → Bool) : ∀ ts : List Co, ts.any (Co.anyN p) = Co.anyNs p ts
  | [] => rfl
  | t :: ts => by rw [List.any_cons, Co.anyNs_any p ts, Co.anyNs]
/-- The contract of a function value with one captured variable. -/
abbrev FnCo1 (F : FuncId) (q : Value) (p : Co → Bool) (Good : World → Prop) (N : Nat) : Prop :=
  ∀ (k1 : Int) (v1 : Int) (ds1 : List Int) (ks1 : List Co) (ads1 : Option Addr) (cds1 : Nat) (aks1 : Option Addr) (cks1 : Nat) (W : World), Co.bulk (Co.mk k1 v1 ds1 ks1) < N → Good W → RdS W (Co.d (Co.mk k1 v1 ds1 ks1)) [.int .i64 k1, .int .i64 v1, .slice ads1 ds1.length cds1, .slice aks1 ks1.length cks1] → Calls Try.prog F #[.agg #[.int .i64 k1, .int .i64 v1, .slice ads1 ds1.length cds1, .slice aks1 ks1.length cks1], q] W fun e w' => e = .returned (.bool (p (Co.mk k1 v1 ds1 ks1))) ∧ Below W.heap.size W w'
theorem any1_clo (F : FuncId) (q : Value) (p : Co → Bool) (Good : World → Prop) (hk : ∀ w w', Below w.heap.size w w' → Good w → Good w') (N : Nat)
    (ih : ∀ (k1 : Int) (v1 : Int) (ds1 : List Int) (ks1 : List Co) (ads1 : Option Addr) (cds1 : Nat) (aks1 : Option Addr) (cks1 : Nat) (W : World), Co.bulk (Co.mk k1 v1 ds1 ks1) < N → Good W → RdS W (Co.d (Co.mk k1 v1 ds1 ks1)) [.int .i64 k1, .int .i64 v1, .slice ads1 ds1.length cds1, .slice aks1 ks1.length cks1] → Calls Try.prog 117 #[.agg #[.int .i64 k1, .int .i64 v1, .slice ads1 ds1.length cds1, .slice aks1 ks1.length cks1], .func (.func F) #[] #[q]] W fun e w' => e = .returned (.bool (Co.anyN p (Co.mk k1 v1 ds1 ks1))) ∧ Below W.heap.size W w')
    (k1 : Int) (v1 : Int) (ds1 : List Int) (ks1 : List Co) (ads1 : Option Addr) (cds1 : Nat) (aks1 : Option Addr) (cks1 : Nat) (pp : Addr) (w : World) (hN : Co.bulk (Co.mk k1 v1 ds1 ks1) < N) (hg : Good w) (hp : w.cell? pp = some (.func (.func F) #[] #[q])) (hr : RdS w (Co.d (Co.mk k1 v1 ds1 ks1)) [.int .i64 k1, .int .i64 v1, .slice ads1 ds1.length cds1, .slice aks1 ks1.length cks1]) :
    Calls Try.prog 132 #[.agg #[.int .i64 k1, .int .i64 v1, .slice ads1 ds1.length cds1, .slice aks1 ks1.length cks1], .pointer (some pp)] w fun e w' => e = .returned (.bool (Co.anyN p (Co.mk k1 v1 ds1 ks1))) ∧ Below w.heap.size w w' := by
  have hB := (Below.refl w.heap.size w).alloc (Nat.le_refl _) (.cells #[.int .i64 k1, .int .i64 v1, .slice ads1 ds1.length cds1, .slice aks1 ks1.length cks1] 35)
  have HC := hid (ih k1 v1 ds1 ks1 ads1 cds1 aks1 cks1 _ hN (hk _ _ hB hg) (hr.below hB))
  have hp' := (hB.cell (p := pp) (World.block_lt_of_cell? _ _ hp)).trans hp
  have HB := hid hB
  clear hB hr ih hp hk hg
  go_enter Try.func132, Try.ntmps132
  go_wp2_with fail
  refine HC.out.mono ?_
  rintro e w1 ⟨rfl, hb⟩
  have HB1 := hid (HB.out.trans (hb.mono HB.out.size))
  clear hb
  go_wp2_with fail
  go_ret
  exact ⟨rfl, HB1.out⟩
set_option maxRecDepth 100000 in
theorem any1_step (F : FuncId) (eF : ∀ args (w : World), (callFunc F args).run Try.prog w = .ok (.enter F args) w) (q : Value) (p : Co → Bool) (Good : World → Prop) (hk : ∀ w w', Below w.heap.size w w' → Good w → Good w') (M : Nat) (hF : FnCo1 F q p Good M) (N : Nat) (hNM : N < M)
    (ih : ∀ (k1 : Int) (v1 : Int) (ds1 : List Int) (ks1 : List Co) (ads1 : Option Addr) (cds1 : Nat) (aks1 : Option Addr) (cks1 : Nat) (W : World), Co.bulk (Co.mk k1 v1 ds1 ks1) < N → Good W → RdS W (Co.d (Co.mk k1 v1 ds1 ks1)) [.int .i64 k1, .int .i64 v1, .slice ads1 ds1.length cds1, .slice aks1 ks1.length cks1] → Calls Try.prog 117 #[.agg #[.int .i64 k1, .int .i64 v1, .slice ads1 ds1.length cds1, .slice aks1 ks1.length cks1], .func (.func F) #[] #[q]] W fun e w' => e = .returned (.bool (Co.anyN p (Co.mk k1 v1 ds1 ks1))) ∧ Below W.heap.size W w') :
    ∀ (k1 : Int) (v1 : Int) (ds1 : List Int) (ks1 : List Co) (ads1 : Option Addr) (cds1 : Nat) (aks1 : Option Addr) (cks1 : Nat) (w : World), Co.bulk (Co.mk k1 v1 ds1 ks1) < N + 1 → Good w → RdS w (Co.d (Co.mk k1 v1 ds1 ks1)) [.int .i64 k1, .int .i64 v1, .slice ads1 ds1.length cds1, .slice aks1 ks1.length cks1] → Calls Try.prog 117 #[.agg #[.int .i64 k1, .int .i64 v1, .slice ads1 ds1.length cds1, .slice aks1 ks1.length cks1], .func (.func F) #[] #[q]] w fun e w' => e = .returned (.bool (Co.anyN p (Co.mk k1 v1 ds1 ks1))) ∧ Below w.heap.size w w' := by
  intro k1 v1 ds1 ks1 ads1 cds1 aks1 cks1 w hN hg hr
  have hbk : Co.bulk (Co.mk k1 v1 ds1 ks1) = In.bulks ds1 + Co.bulks ks1 := rfl
  have HE := hid (show Co.anyN p (Co.mk k1 v1 ds1 ks1) = (p (Co.mk k1 v1 ds1 ks1) || Co.anyNs p ks1) from by rw [Co.anyN])
  have HX0 := hid (((Boxes.nil w).alloc #[.int .i64 k1, .int .i64 v1, .slice ads1 ds1.length cds1, .slice aks1 ks1.length cks1] 35 (0, 0)).alloc #[.func (.func F) #[] #[q]] 128 (0, 0))
  have hB : Below w.heap.size w ((w.alloc (.cells #[.int .i64 k1, .int .i64 v1, .slice ads1 ds1.length cds1, .slice aks1 ks1.length cks1] 35)).alloc (.cells #[.func (.func F) #[] #[q]] 128)) := ((Below.refl _ _).alloc (Nat.le_refl _) _).alloc (by simp) _
  have hc := fun W (hW : Below w.heap.size w W) (hp : W.cell? ⟨w.heap.size + 1, 0, none⟩ = some (.func (.func F) #[] #[q])) =>
    contains_Co_1 132 Try.call132 (.pointer (some ⟨w.heap.size + 1, 0, none⟩)) (Co.anyN p) (fun V => Good V ∧ V.cell? ⟨w.heap.size + 1, 0, none⟩ = some (.func (.func F) #[] #[q]))
      (fun a b hab ⟨h1, h2⟩ => ⟨hk a b hab h1, (hab.cell (p := ⟨w.heap.size + 1, 0, none⟩) (World.block_lt_of_cell? _ _ h2)).trans h2⟩) ks1 aks1 cks1 W ⟨hk _ _ hW hg, hp⟩ (hr.fCo.2.2.2.below hW)
      (fun k3 v3 ds3 ks3 ads3 cds3 aks3 cks3 j V hj hV hrv => any1_clo F q p Good hk N ih k3 v3 ds3 ks3 ads3 cds3 aks3 cks3 _ V (by have := Co.bulk_get ks1 j _ hj; omega) hV.1 hV.2 hrv)
  have hv := hF k1 v1 ds1 ks1 ads1 cds1 aks1 cks1 ((w.alloc (.cells #[.int .i64 k1, .int .i64 v1, .slice ads1 ds1.length cds1, .slice aks1 ks1.length cks1] 35)).alloc (.cells #[.func (.func F) #[] #[q]] 128)) (by omega) (hk _ _ hB hg) (hr.below hB)
  have HB := hid hB
  rw [Co.anyNs_any] at hc
  have HC := hid hc
  clear hc hr hB ih hbk hN hF hk hg hNM
  by_cases hq : p (Co.mk k1 v1 ds1 ks1) = true
  case pos =>
    rw [hq] at hv
    have HV := hid hv
    have HQ := hid hq
    clear hv hq HC
    go_enter Try.func117, Try.ntmps117
    go_wp2_with fail
    refine HV.out.mono ?_
    rintro e w1 ⟨rfl, hb⟩
    have HB1 := hid (HB.out.trans (hb.mono HB.out.size))
    clear hb
    go_wp2_with fail
    go_ret
    exact ⟨ret_bool (by rw [HE.out, HQ.out]; rfl), HB1.out⟩
  case neg =>
    replace hq := (Bool.not_eq_true _).mp hq
    rw [hq] at hv
    have HV := hid hv
    have HQ := hid hq
    clear hv hq
    go_enter Try.func117, Try.ntmps117
    go_wp2_with fail
    refine HV.out.mono ?_
    rintro e w1 ⟨rfl, hb⟩
    have HB1 := hid (HB.out.trans (hb.mono HB.out.size))
    have HX1 := hid (HX0.out.below hb)
    have g3 := HX1.out.at 1 3 rfl rfl
    have gf := HX1.out.at 0 0 rfl rfl
    simp only [World.size_alloc] at gf
    have GF := hid gf
    clear hb gf
    go_wp2_with fail
    refine (HC.out _ HB1.out GF.out).mono ?_
    rintro e w2 ⟨rfl, hb⟩
    have HB2 := hid (HB1.out.trans (hb.mono HB1.out.size))
    clear hb
    go_wp2_with fail
    go_ret
    exact ⟨ret_bool (by rw [HE.out, HQ.out]; rfl), HB2.out⟩
theorem any1_all (F : FuncId) (eF : ∀ args (w : World), (callFunc F args).run Try.prog w = .ok (.enter F args) w) (q : Value) (p : Co → Bool) (Good : World → Prop) (hk : ∀ w w', Below w.heap.size w w' → Good w → Good w') (M : Nat) (hF : FnCo1 F q p Good M) : ∀ N, N ≤ M →
    ∀ (k1 : Int) (v1 : Int) (ds1 : List Int) (ks1 : List Co) (ads1 : Option Addr) (cds1 : Nat) (aks1 : Option Addr) (cks1 : Nat) (W : World), Co.bulk (Co.mk k1 v1 ds1 ks1) < N → Good W → RdS W (Co.d (Co.mk k1 v1 ds1 ks1)) [.int .i64 k1, .int .i64 v1, .slice ads1 ds1.length cds1, .slice aks1 ks1.length cks1] → Calls Try.prog 117 #[.agg #[.int .i64 k1, .int .i64 v1, .slice ads1 ds1.length cds1, .slice aks1 ks1.length cks1], .func (.func F) #[] #[q]] W fun e w' => e = .returned (.bool (Co.anyN p (Co.mk k1 v1 ds1 ks1))) ∧ Below W.heap.size W w'
  | 0, _ => fun _ _ _ _ _ _ _ _ _  h => absurd h (by omega)
  | N + 1, h => any1_step F eF q p Good hk M hF N (by omega) (any1_all F eF q p Good hk M hF N (by omega))
end Go.Proofs.Ytlbebnmhldolnaa
