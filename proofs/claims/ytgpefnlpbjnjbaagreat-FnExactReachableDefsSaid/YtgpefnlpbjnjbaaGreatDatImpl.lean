/- Walks: declared names and constructors, in the program. -/
import Derived.Test.YtgpefnlpbjnjbaaGreatDatPlain
import Derived.Test.YtgpefnlpbjnjbaaGreatAnyTy
import Derived.Test.YtgpefnlpbjnjbaaGreatAnyDat
namespace Go.Proofs.YtgpefnlpbjnjbaaGreat
open Go.ChangeShapes Go.WideShapes Go.ChangeAt Go.RowKit
set_option linter.unusedVariables false

theorem impl_datIs (nm : ByteArray) (q : Addr) (n1 : ByteArray) (qs1 : List Con) (aqs1 : Option Addr) (cqs1 : Nat) (w : World) (hq : w.cell? q = some (.string nm)) :
    Calls Tryz.prog 144 #[.agg #[.string n1, .slice aqs1 qs1.length cqs1], .pointer (some q)] w fun e w' => e = .returned (.bool (datIs nm (Dat.mk n1 qs1))) ∧ Below w.heap.size w w' := by
  have hB := (Below.refl w.heap.size w).alloc (Nat.le_refl _) (.cells #[.string n1, .slice aqs1 qs1.length cqs1] 95)
  have z0 := (hB.cell (p := q) (World.block_lt_of_cell? _ _ hq)).trans hq
  have HB := hid hB
  clear hB hq
  by_cases h : n1 = nm
  case pos =>
    have hb := bytes_eq h
    have HF := hid (show datIs nm (Dat.mk n1 qs1) = true by simp [datIs, h])
    clear h
    go_enter Tryz.func144, Tryz.ntmps144
    go_wp2_with fail
    go_ret
    exact ⟨ret_bool HF.out.symm, HB.out⟩
  case neg =>
    have hb := bytes_ne h
    have HF := hid (show datIs nm (Dat.mk n1 qs1) = false by simp [datIs, h])
    clear h
    go_enter Tryz.func144, Tryz.ntmps144
    go_wp2_with fail
    go_ret
    exact ⟨ret_bool HF.out.symm, HB.out⟩
theorem impl_findData (ts : List Dat) (a : Option Addr) (c : Nat) (nm : ByteArray) (w : World) (hr : RdL w (Dat.ds ts) (.slice a ts.length c)) :
    Calls Tryz.prog 99 #[.slice a ts.length c, .string nm] w fun e w' => e = .returned (.int .i64 (named ts nm)) ∧ Below w.heap.size w w' := by
  have hB := (Below.refl w.heap.size w).alloc (Nat.le_refl _) (.cells #[.string nm] 9)
  have HX0 := hid ((Boxes.nil w).alloc #[.string nm] 9 (0, 0))
  have hc := indexFunc_Dat_1 144 Tryz.call144 (.pointer (some ⟨w.heap.size, 0, none⟩)) (datIs nm) (fun W => W.cell? ⟨w.heap.size, 0, none⟩ = some (.string nm)) (fun x y hab h => (hab.cell (p := ⟨w.heap.size, 0, none⟩) (World.block_lt_of_cell? _ _ h)).trans h) ts a c _ (HX0.out.at 0 0 rfl rfl) (hr.below hB)
    (fun n1 qs1 aqs1 cqs1 j W _ hW hrw => impl_datIs nm _ n1 qs1 aqs1 cqs1 W hW)
  have HC := hid hc
  have HB := hid hB
  clear hc hr hB HX0
  go_enter Tryz.func99, Tryz.ntmps99
  go_wp2_with fail
  refine HC.out.mono ?_
  rintro e w1 ⟨rfl, hb⟩
  have HB1 := hid (HB.out.trans (hb.mono HB.out.size))
  clear hb
  go_wp2_with fail
  go_ret
  exact ⟨rfl, HB1.out⟩

def DeW (ts : List Dat) (a : Option Addr) (c : Nat) (N : Nat) : Prop := ∀ (k1 : Int) (n1 : ByteArray) (ks1 : List Ty) (aks1 : Option Addr) (cks1 : Nat) (w : World), Ty.bulk (Ty.mk k1 n1 ks1) < N → Ty.good (Ty.mk k1 n1 ks1) = true → RdL w (Dat.ds ts) (.slice a ts.length c) → RdS w (Ty.d (Ty.mk k1 n1 ks1)) [.int .i64 k1, .string n1, .slice aks1 ks1.length cks1] →
  Calls Tryz.prog 66 #[.slice a ts.length c, .agg #[.int .i64 k1, .string n1, .slice aks1 ks1.length cks1]] w fun e w' => e = .returned (.bool (Ty.known ts (Ty.mk k1 n1 ks1))) ∧ Below w.heap.size w w'
def unknownTy (ts : List Dat) (t : Ty) : Bool := !Ty.known ts t
theorem knowns_any (ts : List Dat) : ∀ us : List Ty, us.any (unknownTy ts) = !Ty.knowns ts us
  | [] => rfl
  | t :: us => by rw [List.any_cons, knowns_any ts us, Ty.knowns, unknownTy]; cases Ty.known ts t <;> rfl
theorem impl_undecl (ts : List Dat) (a : Option Addr) (c : Nat) (N : Nat) (ih : DeW ts a c N) (q : Addr) (k1 : Int) (n1 : ByteArray) (ks1 : List Ty) (aks1 : Option Addr) (cks1 : Nat) (w : World) (hN : Ty.bulk (Ty.mk k1 n1 ks1) < N) (hg : Ty.good (Ty.mk k1 n1 ks1) = true) (hq : w.cell? q = some (.slice a ts.length c)) (hd : RdL w (Dat.ds ts) (.slice a ts.length c)) (hr : RdS w (Ty.d (Ty.mk k1 n1 ks1)) [.int .i64 k1, .string n1, .slice aks1 ks1.length cks1]) :
    Calls Tryz.prog 106 #[.agg #[.int .i64 k1, .string n1, .slice aks1 ks1.length cks1], .pointer (some q)] w fun e w' => e = .returned (.bool (unknownTy ts (Ty.mk k1 n1 ks1))) ∧ Below w.heap.size w w' := by
  have hB := (Below.refl w.heap.size w).alloc (Nat.le_refl _) (.cells #[.int .i64 k1, .string n1, .slice aks1 ks1.length cks1] 59)
  have HC := hid (ih k1 n1 ks1 aks1 cks1 _ hN hg (hd.below hB) (hr.below hB))
  have z0 := (hB.cell (p := q) (World.block_lt_of_cell? _ _ hq)).trans hq
  have HB := hid hB
  have HF := hid (show unknownTy ts (Ty.mk k1 n1 ks1) = !Ty.known ts (Ty.mk k1 n1 ks1) from rfl)
  clear hB hr ih hq hd hN hg
  go_enter Tryz.func106, Tryz.ntmps106
  go_wp2_with fail
  refine HC.out.mono ?_
  rintro e w1 ⟨rfl, hb⟩
  have HB1 := hid (HB.out.trans (hb.mono HB.out.size))
  clear hb
  go_wp2_with fail
  go_ret
  exact ⟨ret_bool HF.out.symm, HB1.out⟩
set_option maxHeartbeats 1000000 in
theorem de_step (ts : List Dat) (a : Option Addr) (c : Nat) (N : Nat) (ih : DeW ts a c N) : DeW ts a c (N + 1) := by
  intro k1 n1 ks1 aks1 cks1 w hN hg hd hr
  have hbk : Ty.bulk (Ty.mk k1 n1 ks1) = n1.size + Ty.bulks ks1 := rfl
  have HE := hid (show Ty.known ts (Ty.mk k1 n1 ks1) = (if k1 = 2 then Ty.knows ts n1 else Ty.knowns ts ks1) from by rw [Ty.known])
  have hgd : Ty.good (Ty.mk k1 n1 ks1) = (Ty.goods ks1 && okNode k1 n1 ks1.length) := rfl
  rw [hgd, Bool.and_eq_true] at hg
  have HX0 := hid (((Boxes.nil w).alloc #[.slice a ts.length c] 29 (0, 0)).alloc #[.int .i64 k1, .string n1, .slice aks1 ks1.length cks1] 59 (0, 0))
  have hB : Below w.heap.size w ((w.alloc (.cells #[.slice a ts.length c] 29)).alloc (.cells #[.int .i64 k1, .string n1, .slice aks1 ks1.length cks1] 59)) := ((Below.refl _ _).alloc (Nat.le_refl _) _).alloc (by simp) _
  have HB0 := hid hB
  have hcf := fun W (hW : Below w.heap.size w W) => impl_findData ts a c n1 W (hd.below hW)
  have hct := fun W (hW : Below w.heap.size w W) (hq : W.cell? ⟨w.heap.size, 0, none⟩ = some (.slice a ts.length c)) =>
    contains_Ty_1 106 Tryz.call106 (.pointer (some ⟨w.heap.size, 0, none⟩)) (unknownTy ts) (fun U => Below w.heap.size w U ∧ U.cell? ⟨w.heap.size, 0, none⟩ = some (.slice a ts.length c))
      (fun x y hxy ⟨h1, h2⟩ => ⟨h1.trans (hxy.mono h1.size), (hxy.cell (p := ⟨w.heap.size, 0, none⟩) (World.block_lt_of_cell? _ _ h2)).trans h2⟩) ks1 aks1 cks1 W ⟨hW, hq⟩ (hr.fTy.2.2.below hW)
      (fun k3 n3 ks3 aks3 cks3 j U hj hU hru => impl_undecl ts a c N ih _ k3 n3 ks3 aks3 cks3 U (by have := Ty.bulk_get ks1 j _ hj; omega) (Ty.goods_get ks1 j _ hg.1 hj) hU.2 (hd.below hU.1) hru)
  rw [knowns_any] at hct
  have HCF := hid hcf
  have HKK := hid hct
  by_cases h2 : k1 = 2
  case pos =>
    have HF := hid (show Ty.known ts (Ty.mk k1 n1 ks1) = Ty.knows ts n1 by rw [HE.out, if_pos h2])
    have hks : ks1 = [] := by
      have h := hg.2
      rw [h2] at h
      simp [okNode] at h
      exact h.2.2
    subst h2
    have HKS := hid (show Ty.knowns ts ks1 = true by rw [hks]; rfl)
    by_cases hk : 0 ≤ named ts n1
    case neg =>
      have hkb : decide (named ts n1 < 0) = true := by simp; omega
      have HR := hid (show Ty.known ts (Ty.mk 2 n1 ks1) = false by rw [HF.out, Ty.knows]; simp; omega)
      generalize named ts n1 = m at HCF hkb
      clear hr ih hN hbk hd hk HE hcf hct HKK hg hgd hks hB
      go_enter Tryz.func66, Tryz.ntmps66
      go_wp2_with fail
      refine (HCF.out _ HB0.out).mono ?_
      rintro e w1 ⟨rfl, hb⟩
      have HB1 := hid (HB0.out.trans (hb.mono HB0.out.size))
      clear hb
      go_wp2_with fail
      go_ret
      exact ⟨ret_bool HR.out.symm, HB1.out⟩
    case pos =>
      have hkb : decide (named ts n1 < 0) = false := by simp; omega
      have HR := hid (show Ty.known ts (Ty.mk 2 n1 ks1) = true by rw [HF.out, Ty.knows]; simp; omega)
      generalize named ts n1 = m at HCF hkb
      clear hr ih hN hbk hd hk HE hcf hct hg hgd hks hB
      go_enter Tryz.func66, Tryz.ntmps66
      go_wp2_with fail
      refine (HCF.out _ HB0.out).mono ?_
      rintro e w1 ⟨rfl, hb⟩
      have HB1 := hid (HB0.out.trans (hb.mono HB0.out.size))
      have HX1 := hid (HX0.out.below hb)
      have g2 := HX1.out.at 0 2 rfl rfl
      have gq := HX1.out.at 1 0 rfl rfl
      simp only [World.size_alloc] at g2
      have GQ := hid gq
      clear hb gq
      go_wp2_with fail
      refine (HKK.out _ HB1.out GQ.out).mono ?_
      rintro e w2 ⟨rfl, hb⟩
      have HB2 := hid (HB1.out.trans (hb.mono HB1.out.size))
      clear hb
      go_wp2_with fail
      go_ret
      exact ⟨ret_bool (by rw [HR.out, HKS.out]), HB2.out⟩
  case neg =>
    have g2k : (k1 == 2) = false := by simp [h2]
    have HF := hid (show Ty.known ts (Ty.mk k1 n1 ks1) = Ty.knowns ts ks1 by rw [HE.out, if_neg h2])
    have gq := HX0.out.at 1 0 rfl rfl
    have GQ := hid gq
    clear hr ih hN hbk hd h2 HE hcf hct HCF hg hgd hB gq
    go_enter Tryz.func66, Tryz.ntmps66
    go_wp2_with fail
    refine (HKK.out _ HB0.out GQ.out).mono ?_
    rintro e w2 ⟨rfl, hb⟩
    have HB2 := hid (HB0.out.trans (hb.mono HB0.out.size))
    clear hb
    go_wp2_with fail
    go_ret
    exact ⟨ret_bool (by rw [HF.out]), HB2.out⟩
theorem de_all (ts : List Dat) (a : Option Addr) (c : Nat) : ∀ N, DeW ts a c N
  | 0 => fun _ _ _ _ _ _  h => absurd h (by omega)
  | N + 1 => de_step ts a c N (de_all ts a c N)
theorem impl_declared (ts : List Dat) (a : Option Addr) (c : Nat) (k1 : Int) (n1 : ByteArray) (ks1 : List Ty) (aks1 : Option Addr) (cks1 : Nat) (w : World) (hg : Ty.good (Ty.mk k1 n1 ks1) = true) (hd : RdL w (Dat.ds ts) (.slice a ts.length c)) (hr : RdS w (Ty.d (Ty.mk k1 n1 ks1)) [.int .i64 k1, .string n1, .slice aks1 ks1.length cks1]) :
    Calls Tryz.prog 66 #[.slice a ts.length c, .agg #[.int .i64 k1, .string n1, .slice aks1 ks1.length cks1]] w fun e w' => e = .returned (.bool (Ty.known ts (Ty.mk k1 n1 ks1))) ∧ Below w.heap.size w w' :=
  de_all ts a c (Ty.bulk (Ty.mk k1 n1 ks1) + 1) k1 n1 ks1 aks1 cks1 w (by omega) hg hd hr

def badField (ts : List Dat) (t : Ty) : Bool := !fieldOk ts t
theorem fieldsOk_any (ts : List Dat) : ∀ us : List Ty, us.any (badField ts) = !fieldsOk ts us
  | [] => rfl
  | t :: us => by rw [List.any_cons, fieldsOk_any ts us, fieldsOk, badField]; cases fieldOk ts t <;> rfl
theorem impl_badField (ts : List Dat) (a : Option Addr) (c : Nat) (q : Addr) (k1 : Int) (n1 : ByteArray) (ks1 : List Ty) (aks1 : Option Addr) (cks1 : Nat) (w : World) (hM : Ty.bulk (Ty.mk k1 n1 ks1) ≤ 1048576) (hq : w.cell? q = some (.slice a ts.length c)) (hd : RdL w (Dat.ds ts) (.slice a ts.length c)) (hr : RdS w (Ty.d (Ty.mk k1 n1 ks1)) [.int .i64 k1, .string n1, .slice aks1 ks1.length cks1]) :
    Calls Tryz.prog 145 #[.agg #[.int .i64 k1, .string n1, .slice aks1 ks1.length cks1], .pointer (some q)] w fun e w' => e = .returned (.bool (badField ts (Ty.mk k1 n1 ks1))) ∧ Below w.heap.size w w' := by
  have hB := (Below.refl w.heap.size w).alloc (Nat.le_refl _) (.cells #[.int .i64 k1, .string n1, .slice aks1 ks1.length cks1] 59)
  have HX0 := hid ((Boxes.nil w).alloc #[.int .i64 k1, .string n1, .slice aks1 ks1.length cks1] 59 (0, 0))
  have hv := impl_ValidType k1 n1 ks1 aks1 cks1 _ hM (hr.below hB)
  have Q0 := hid ((hB.cell (p := q) (World.block_lt_of_cell? _ _ hq)).trans hq)
  have hc := fun (hg : Ty.good (Ty.mk k1 n1 ks1) = true) W (hW : Below w.heap.size w W) => impl_declared ts a c k1 n1 ks1 aks1 cks1 W hg (hd.below hW) (hr.below hW)
  have HB := hid hB
  have HE := hid (show badField ts (Ty.mk k1 n1 ks1) = !(Ty.ok (Ty.mk k1 n1 ks1) && Ty.known ts (Ty.mk k1 n1 ks1)) from rfl)
  by_cases hk : Ty.ok (Ty.mk k1 n1 ks1) = true
  case neg =>
    replace hk := (Bool.not_eq_true _).mp hk
    have HF := hid (show badField ts (Ty.mk k1 n1 ks1) = true by rw [HE.out, hk]; rfl)
    rw [hk] at hv
    have HV := hid hv
    clear hv hc hk hr hd hB hq hM HX0
    go_enter Tryz.func145, Tryz.ntmps145
    go_wp2_with fail
    refine HV.out.mono ?_
    rintro e w1 ⟨rfl, hb⟩
    have HB1 := hid (HB.out.trans (hb.mono HB.out.size))
    clear hb
    go_wp2_with fail
    go_ret
    exact ⟨ret_bool HF.out.symm, HB1.out⟩
  case pos =>
    have HF := hid (show badField ts (Ty.mk k1 n1 ks1) = !Ty.known ts (Ty.mk k1 n1 ks1) by rw [HE.out, hk]; rfl)
    replace hc := hc (Ty.ok_good hk)
    rw [hk] at hv
    have HV := hid hv
    have HC := hid hc
    clear hv hc hk hr hd hB hq hM
    go_enter Tryz.func145, Tryz.ntmps145
    go_wp2_with fail
    refine HV.out.mono ?_
    rintro e w1 ⟨rfl, hb⟩
    have HB1 := hid (HB.out.trans (hb.mono HB.out.size))
    have HX1 := hid (HX0.out.below hb)
    have z0 := (hb.cell (p := q) (World.block_lt_of_cell? _ _ Q0.out)).trans Q0.out
    have g0 := HX1.out.at 0 0 rfl rfl
    have g1 := HX1.out.at 0 1 rfl rfl
    have g2 := HX1.out.at 0 2 rfl rfl
    clear hb
    go_wp2_with fail
    refine (HC.out _ HB1.out).mono ?_
    rintro e w2 ⟨rfl, hb⟩
    have HB2 := hid (HB1.out.trans (hb.mono HB1.out.size))
    clear hb
    go_wp2_with fail
    go_ret
    exact ⟨ret_bool HF.out.symm, HB2.out⟩
theorem impl_validCon (ts : List Dat) (a : Option Addr) (c : Nat) (n1 : ByteArray) (fs1 : List Ty) (afs1 : Option Addr) (cfs1 : Nat) (w : World) (hM : Con.bulk (Con.mk n1 fs1) ≤ 1048576) (hd : RdL w (Dat.ds ts) (.slice a ts.length c)) (hr : RdS w (Con.d (Con.mk n1 fs1)) [.string n1, .slice afs1 fs1.length cfs1]) :
    Calls Tryz.prog 100 #[.slice a ts.length c, .agg #[.string n1, .slice afs1 fs1.length cfs1]] w fun e w' => e = .returned (.bool (conOk ts (Con.mk n1 fs1))) ∧ Below w.heap.size w w' := by
  have HE := hid (show conOk ts (Con.mk n1 fs1) = (isUpperB n1 && (decide (fs1.length ≤ 3) && fieldsOk ts fs1)) from rfl)
  have hbk : Con.bulk (Con.mk n1 fs1) = n1.size + Ty.bulks fs1 := rfl
  have hlen := Ty.bulks_length fs1
  have HX0 := hid (((Boxes.nil w).alloc #[.slice a ts.length c] 29 (0, 0)).alloc #[.string n1, .slice afs1 fs1.length cfs1] 116 (0, 0))
  have hB : Below w.heap.size w ((w.alloc (.cells #[.slice a ts.length c] 29)).alloc (.cells #[.string n1, .slice afs1 fs1.length cfs1] 116)) := ((Below.refl _ _).alloc (Nat.le_refl _) _).alloc (by simp) _
  have HB0 := hid hB
  have HV := hid (impl_IsUpper n1 ((w.alloc (.cells #[.slice a ts.length c] 29)).alloc (.cells #[.string n1, .slice afs1 fs1.length cfs1] 116)))
  have hct := fun W (hW : Below w.heap.size w W) (hq : W.cell? ⟨w.heap.size, 0, none⟩ = some (.slice a ts.length c)) =>
    contains_Ty_1 145 Tryz.call145 (.pointer (some ⟨w.heap.size, 0, none⟩)) (badField ts) (fun U => Below w.heap.size w U ∧ U.cell? ⟨w.heap.size, 0, none⟩ = some (.slice a ts.length c))
      (fun x y hxy ⟨h1, h2⟩ => ⟨h1.trans (hxy.mono h1.size), (hxy.cell (p := ⟨w.heap.size, 0, none⟩) (World.block_lt_of_cell? _ _ h2)).trans h2⟩) fs1 afs1 cfs1 W ⟨hW, hq⟩ (hr.fCon.2.below hW)
      (fun k3 n3 ks3 aks3 cks3 j U hj hU hru => impl_badField ts a c _ k3 n3 ks3 aks3 cks3 U (by have := Ty.bulk_get fs1 j _ hj; omega) hU.2 (hd.below hU.1) hru)
  rw [fieldsOk_any] at hct
  have HKK := hid hct
  clear hct hr hd hB
  by_cases hu : isUpperB n1 = true
  case neg =>
    replace hu := (Bool.not_eq_true _).mp hu
    have HF := hid (show conOk ts (Con.mk n1 fs1) = false by rw [HE.out, hu]; rfl)
    have HU := hid hu
    clear hu HE HKK hbk hM hlen
    go_enter Tryz.func100, Tryz.ntmps100
    go_wp2_with fail
    refine HV.out.mono ?_
    rw [HU.out]
    rintro e w1 ⟨rfl, hb⟩
    have HB1 := hid (HB0.out.trans (hb.mono HB0.out.size))
    clear hb
    go_wp2_with fail
    go_ret
    exact ⟨ret_bool HF.out.symm, HB1.out⟩
  case pos =>
    have HU := hid hu
    by_cases hl : 3 < fs1.length
    case pos =>
      have hlb : decide ((3 : Int) < fs1.length) = true := by simp; omega
      have HF := hid (show conOk ts (Con.mk n1 fs1) = false by rw [HE.out, show decide (fs1.length ≤ 3) = false from decide_eq_false (by omega)]; simp)
      clear hu HE HKK hl hbk hM hlen
      go_enter Tryz.func100, Tryz.ntmps100
      go_wp2_with fail
      refine HV.out.mono ?_
      rw [HU.out]
      rintro e w1 ⟨rfl, hb⟩
      have HB1 := hid (HB0.out.trans (hb.mono HB0.out.size))
      have HX1 := hid (HX0.out.below hb)
      have g1 := HX1.out.at 0 1 rfl rfl
      simp only [World.size_alloc] at g1
      clear hb
      go_wp2_with fail
      go_ret
      exact ⟨ret_bool HF.out.symm, HB1.out⟩
    case neg =>
      have hlb : decide ((3 : Int) < fs1.length) = false := by simp; omega
      have HF := hid (show conOk ts (Con.mk n1 fs1) = fieldsOk ts fs1 by rw [HE.out, hu, show decide (fs1.length ≤ 3) = true from decide_eq_true (by omega)]; rfl)
      clear hu HE hl hbk hM hlen
      go_enter Tryz.func100, Tryz.ntmps100
      go_wp2_with fail
      refine HV.out.mono ?_
      rw [HU.out]
      rintro e w1 ⟨rfl, hb⟩
      have HB1 := hid (HB0.out.trans (hb.mono HB0.out.size))
      have HX1 := hid (HX0.out.below hb)
      have g1 := HX1.out.at 0 1 rfl rfl
      have gq := HX1.out.at 1 0 rfl rfl
      simp only [World.size_alloc] at g1
      have GQ := hid gq
      clear hb gq
      go_wp2_with fail
      refine (HKK.out _ HB1.out GQ.out).mono ?_
      rintro e w2 ⟨rfl, hb⟩
      have HB2 := hid (HB1.out.trans (hb.mono HB1.out.size))
      clear hb
      go_wp2_with fail
      go_ret
      exact ⟨ret_bool (by rw [HF.out]), HB2.out⟩
end Go.Proofs.YtgpefnlpbjnjbaaGreat
