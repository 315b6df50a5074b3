/- Walks: ValidBook, in the program. -/
import Derived.Test.YtlbebnmhldolnaaBkValid
import Derived.Test.YtlbebnmhldolnaaAnyCoN
import Derived.Test.YtlbebnmhldolnaaAnyIn
namespace Go.Proofs.Ytlbebnmhldolnaa
open Go.ChangeShapes Go.WideShapes Go.ChangeAt Go.RowKit
set_option linter.unusedVariables false

def geB (n x : Int) : Bool := decide (n ≤ x)
def badRef (n : Int) : Co → Bool
  | .mk k v ds _ => (decide (k = 11) && decide (n ≤ v)) || ds.any (geB n)
theorem allLt_any (n : Int) : ∀ ds : List Int, ds.any (geB n) = !allLt ds n
  | [] => rfl
  | x :: l => by rw [List.any_cons, allLt_any n l, allLt, geB]; simp
mutual
theorem Co.anyN_refs (n : Int) : ∀ t : Co, Co.anyN (badRef n) t = !Co.refs t n
  | .mk k v ds ks => by rw [Co.anyN, Co.anyNs_refs n ks, badRef, allLt_any, Co.refs]; cases (decide (k = 11) && decide (n ≤ v)) <;> cases allLt ds n <;> cases Co.refss ks n <;> rfl
theorem Co.anyNs_refs (n : Int) : ∀ ts : List Co, Co.anyNs (badRef n) ts = !Co.refss ts n
  | [] => rfl
  | t :: ts => by rw [Co.anyNs, Co.anyN_refs n t, Co.anyNs_refs n ts, Co.refss]; cases Co.refs t n <;> cases Co.refss ts n <;> rfl
end

theorem impl_ge (x n : Int) (q : Addr) (w : World) (hq : w.cell? q = some (.int .i64 n)) : Calls Try.prog 120 #[.int .i64 x, .pointer (some q)] w fun e w' => e = .returned (.bool (geB n x)) ∧ Below w.heap.size w w' := by
  by_cases h : n ≤ x
  case pos =>
    have hb : decide (n ≤ x) = true := by simp [h]
    have HF := hid (show geB n x = true from hb)
    clear h
    go_enter Try.func120, Try.ntmps120
    go_wp2_with fail
    go_ret
    exact ⟨ret_bool HF.out.symm, Below.refl _ _⟩
  case neg =>
    have hb : decide (n ≤ x) = false := by simp; omega
    have HF := hid (show geB n x = false from hb)
    clear h
    go_enter Try.func120, Try.ntmps120
    go_wp2_with fail
    go_ret
    exact ⟨ret_bool HF.out.symm, Below.refl _ _⟩
theorem impl_badRef (n : Int) (q : Addr) (k1 : Int) (v1 : Int) (ds1 : List Int) (ks1 : List Co) (ads1 : Option Addr) (cds1 : Nat) (aks1 : Option Addr) (cks1 : Nat) (w : World) (hq : w.cell? q = some (.int .i64 n)) (hr : RdS w (Co.d (Co.mk k1 v1 ds1 ks1)) [.int .i64 k1, .int .i64 v1, .slice ads1 ds1.length cds1, .slice aks1 ks1.length cks1]) :
    Calls Try.prog 119 #[.agg #[.int .i64 k1, .int .i64 v1, .slice ads1 ds1.length cds1, .slice aks1 ks1.length cks1], .pointer (some q)] w fun e w' => e = .returned (.bool (badRef n (Co.mk k1 v1 ds1 ks1))) ∧ Below w.heap.size w w' := by
  have HE := hid (show badRef n (Co.mk k1 v1 ds1 ks1) = ((decide (k1 = 11) && decide (n ≤ v1)) || ds1.any (geB n)) from rfl)
  have hB := (Below.refl w.heap.size w).alloc (Nat.le_refl _) (.cells #[.int .i64 k1, .int .i64 v1, .slice ads1 ds1.length cds1, .slice aks1 ks1.length cks1] 35)
  have hq' := (hB.cell (p := q) (World.block_lt_of_cell? _ _ hq)).trans hq
  have hc := contains_In_1 120 Try.call120 (.pointer (some q)) (geB n) (fun W => W.cell? q = some (.int .i64 n)) (fun a b hab h => (hab.cell (p := q) (World.block_lt_of_cell? _ _ h)).trans h) ds1 ads1 cds1 _ hq' (hr.fCo.2.2.1.below hB)
    (fun x j W _ hW _ => impl_ge x n q W hW)
  have HB := hid hB
  have HC := hid hc
  clear hc hr hB hq
  by_cases hA : k1 = 11 ∧ n ≤ v1
  case pos =>
    obtain ⟨rfl, hv⟩ := hA
    have hvb : decide (n ≤ v1) = true := by simp [hv]
    have HF := hid (show badRef n (Co.mk 11 v1 ds1 ks1) = true by rw [HE.out]; simp [hv])
    clear hv HC HE
    go_enter Try.func119, Try.ntmps119
    go_wp2_with fail
    go_ret
    exact ⟨ret_bool HF.out.symm, HB.out⟩
  case neg =>
    have HF := hid (show badRef n (Co.mk k1 v1 ds1 ks1) = ds1.any (geB n) by
      rw [HE.out]
      have : (decide (k1 = 11) && decide (n ≤ v1)) = false := by simpa using hA
      rw [this]; rfl)
    have hcase : ((k1 == 11) = true ∧ decide (n ≤ v1) = false) ∨ (k1 == 11) = false := by
      by_cases h1 : k1 = 11
      · left; exact ⟨by simp [h1], by simp; have : ¬ n ≤ v1 := fun c => hA ⟨h1, c⟩; omega⟩
      · right; simp [h1]
    clear hA HE
    rcases hcase with ⟨g1, gv⟩ | g1
    all_goals
      go_enter Try.func119, Try.ntmps119
      go_wp2_with fail
      refine HC.out.mono ?_
      rintro e w1 ⟨rfl, hb⟩
      have HB1 := hid (HB.out.trans (hb.mono HB.out.size))
      clear hb
      go_wp2_with fail
      go_ret
      exact ⟨ret_bool HF.out.symm, HB1.out⟩
theorem impl_namesOnly (k1 : Int) (v1 : Int) (ds1 : List Int) (ks1 : List Co) (ads1 : Option Addr) (cds1 : Nat) (aks1 : Option Addr) (cks1 : Nat) (n : Int) (w : World) (hr : RdS w (Co.d (Co.mk k1 v1 ds1 ks1)) [.int .i64 k1, .int .i64 v1, .slice ads1 ds1.length cds1, .slice aks1 ks1.length cks1]) :
    Calls Try.prog 95 #[.agg #[.int .i64 k1, .int .i64 v1, .slice ads1 ds1.length cds1, .slice aks1 ks1.length cks1], .int .i64 n] w fun e w' => e = .returned (.bool (Co.refs (Co.mk k1 v1 ds1 ks1) n)) ∧ Below w.heap.size w w' := by
  have HX0 := hid (((Boxes.nil w).alloc #[.int .i64 k1, .int .i64 v1, .slice ads1 ds1.length cds1, .slice aks1 ks1.length cks1] 35 (0, 0)).alloc #[.int .i64 n] 3 (0, 0))
  have hB : Below w.heap.size w ((w.alloc (.cells #[.int .i64 k1, .int .i64 v1, .slice ads1 ds1.length cds1, .slice aks1 ks1.length cks1] 35)).alloc (.cells #[.int .i64 n] 3)) := ((Below.refl _ _).alloc (Nat.le_refl _) _).alloc (by simp) _
  have g0 := HX0.out.at 0 0 rfl rfl
  simp only [World.size_alloc] at g0
  have hc := any1_all 119 Try.call119 (.pointer (some ⟨w.heap.size + 1, 0, none⟩)) (badRef n) (fun W => W.cell? ⟨w.heap.size + 1, 0, none⟩ = some (.int .i64 n)) (fun a b hab h => (hab.cell (p := ⟨w.heap.size + 1, 0, none⟩) (World.block_lt_of_cell? _ _ h)).trans h) (Co.bulk (Co.mk k1 v1 ds1 ks1) + 1)
    (fun k1 v1 ds1 ks1 ads1 cds1 aks1 cks1 W _ hW hrw => impl_badRef n _ k1 v1 ds1 ks1 ads1 cds1 aks1 cks1 W hW hrw) (Co.bulk (Co.mk k1 v1 ds1 ks1) + 1) (Nat.le_refl _) k1 v1 ds1 ks1 ads1 cds1 aks1 cks1 _ (by omega) g0 (hr.below hB)
  rw [Co.anyN_refs] at hc
  have HC := hid hc
  have HB := hid hB
  clear hc hr hB HX0 g0
  go_enter Try.func95, Try.ntmps95
  go_wp2_with fail
  refine HC.out.mono ?_
  rintro e w1 ⟨rfl, hb⟩
  have HB1 := hid (HB.out.trans (hb.mono HB.out.size))
  clear hb
  go_wp2_with fail
  go_ret
  exact ⟨ret_bool (by simp), HB1.out⟩

def badDef (n : Int) (t : Co) : Bool := !defOk n t
theorem defsOk_any (n : Int) : ∀ ts : List Co, ts.any (badDef n) = !defsOk n ts
  | [] => rfl
  | t :: ts => by rw [List.any_cons, defsOk_any n ts, defsOk, badDef]; cases defOk n t <;> rfl
theorem impl_badDef (fs1 : List Co) (afs1 : Option Addr) (cfs1 : Nat) (hfl : fs1.length ≤ 1048576) (q : Addr) (k1 : Int) (v1 : Int) (ds1 : List Int) (ks1 : List Co) (ads1 : Option Addr) (cds1 : Nat) (aks1 : Option Addr) (cks1 : Nat) (w : World) (hM : Co.bulk (Co.mk k1 v1 ds1 ks1) ≤ 1048576) (hq : w.cell? q = some (.slice afs1 fs1.length cfs1)) (hr : RdS w (Co.d (Co.mk k1 v1 ds1 ks1)) [.int .i64 k1, .int .i64 v1, .slice ads1 ds1.length cds1, .slice aks1 ks1.length cks1]) :
    Calls Try.prog 114 #[.agg #[.int .i64 k1, .int .i64 v1, .slice ads1 ds1.length cds1, .slice aks1 ks1.length cks1], .pointer (some q)] w fun e w' => e = .returned (.bool (badDef fs1.length (Co.mk k1 v1 ds1 ks1))) ∧ Below w.heap.size w w' := by
  have HE := hid (show badDef fs1.length (Co.mk k1 v1 ds1 ks1) = !((Co.ok (Co.mk k1 v1 ds1 ks1) && Co.clo (Co.mk k1 v1 ds1 ks1) 0) && Co.refs (Co.mk k1 v1 ds1 ks1) fs1.length) from rfl)
  have HX0 := hid ((Boxes.nil w).alloc #[.int .i64 k1, .int .i64 v1, .slice ads1 ds1.length cds1, .slice aks1 ks1.length cks1] 35 (0, 0))
  have hB := (Below.refl w.heap.size w).alloc (Nat.le_refl _) (.cells #[.int .i64 k1, .int .i64 v1, .slice ads1 ds1.length cds1, .slice aks1 ks1.length cks1] 35)
  have Q0 := hid ((hB.cell (p := q) (World.block_lt_of_cell? _ _ hq)).trans hq)
  have hv := impl_IsClosed k1 v1 ds1 ks1 ads1 cds1 aks1 cks1 _ hM (hr.below hB)
  have hc := fun W (hW : Below w.heap.size w W) => impl_namesOnly k1 v1 ds1 ks1 ads1 cds1 aks1 cks1 fs1.length W (hr.below hW)
  have HB := hid hB
  have HR := hid hr
  clear hr hB hq hM
  by_cases hk : (Co.ok (Co.mk k1 v1 ds1 ks1) && Co.clo (Co.mk k1 v1 ds1 ks1) 0) = true
  case neg =>
    replace hk := (Bool.not_eq_true _).mp hk
    rw [hk] at hv
    have HF := hid (show badDef fs1.length (Co.mk k1 v1 ds1 ks1) = true by rw [HE.out, hk]; rfl)
    have HV := hid hv
    clear hv hc hk
    go_enter Try.func114, Try.ntmps114
    go_wp2_with fail
    refine HV.out.mono ?_
    rintro e w1 ⟨rfl, hb⟩
    have HB1 := hid (HB.out.trans (hb.mono HB.out.size))
    clear hb
    go_wp2_with fail
    go_ret
    exact ⟨ret_bool HF.out.symm, HB1.out⟩
  case pos =>
    rw [hk] at hv
    have HF := hid (show badDef fs1.length (Co.mk k1 v1 ds1 ks1) = !Co.refs (Co.mk k1 v1 ds1 ks1) fs1.length by rw [HE.out, hk]; rfl)
    have HV := hid hv
    have HC := hid hc
    clear hv hc hk
    go_enter Try.func114, Try.ntmps114
    go_wp2_with fail
    refine HV.out.mono ?_
    rintro e w1 ⟨rfl, hb⟩
    have HB1 := hid (HB.out.trans (hb.mono HB.out.size))
    have HX1 := hid (HX0.out.below hb)
    have q1 := (hb.cell (p := q) (World.block_lt_of_cell? _ _ Q0.out)).trans Q0.out
    have g0 := HX1.out.at 0 0 rfl rfl
    have g1 := HX1.out.at 0 1 rfl rfl
    have g2 := HX1.out.at 0 2 rfl rfl
    have g3 := HX1.out.at 0 3 rfl rfl
    clear hb
    go_wp2_with fail
    refine (HC.out _ HB1.out).mono ?_
    rintro e w2 ⟨rfl, hb⟩
    have HB2 := hid (HB1.out.trans (hb.mono HB1.out.size))
    clear hb
    go_wp2_with fail
    go_ret
    exact ⟨ret_bool HF.out.symm, HB2.out⟩
theorem impl_ValidBook (fs1 : List Co) (afs1 : Option Addr) (cfs1 : Nat) (w : World) (hM : Bk.bulk (.mk fs1) ≤ 1048576) (hr : RdS w (Bk.d (.mk fs1)) [.slice afs1 fs1.length cfs1]) :
    Calls Try.prog 91 #[.agg #[.slice afs1 fs1.length cfs1]] w fun e w' => e = .returned (.bool (bookOk fs1)) ∧ Below w.heap.size w w' := by
  have hM' : Co.bulks fs1 ≤ 1048576 := hM
  have hlen := Co.bulks_length fs1
  have HX0 := hid ((Boxes.nil w).alloc #[.slice afs1 fs1.length cfs1] 45 (0, 0))
  have hB := (Below.refl w.heap.size w).alloc (Nat.le_refl _) (.cells #[.slice afs1 fs1.length cfs1] 45)
  have g0 := HX0.out.at 0 0 rfl rfl
  have hc := contains_Co_1 114 Try.call114 (.pointer (some ⟨w.heap.size, 0, none⟩)) (badDef fs1.length) (fun W => W.cell? ⟨w.heap.size, 0, none⟩ = some (.slice afs1 fs1.length cfs1)) (fun a b hab h => (hab.cell (p := ⟨w.heap.size, 0, none⟩) (World.block_lt_of_cell? _ _ h)).trans h) fs1 afs1 cfs1 _ g0 (hr.fBk.below hB)
    (fun k1 v1 ds1 ks1 ads1 cds1 aks1 cks1 j W hj hW hrw => impl_badDef fs1 afs1 cfs1 (by omega) _ k1 v1 ds1 ks1 ads1 cds1 aks1 cks1 W (by have := Co.bulk_get fs1 j _ hj; omega) hW hrw)
  rw [defsOk_any] at hc
  have HC := hid hc
  have HB := hid hB
  clear hc hr hB HX0 g0 hM hM'
  by_cases h1 : fs1.length < 1
  case pos =>
    have hb1 : decide ((fs1.length : Int) < 1) = true := by simp <;> omega
    have HF := hid (show bookOk fs1 = false by rw [bookOk, inR_f (by omega)]; rfl)
    clear h1 HC
    go_enter Try.func91, Try.ntmps91
    go_wp2_with fail
    go_ret
    exact ⟨ret_bool HF.out.symm, HB.out⟩
  case neg =>
    have hb1 : decide ((fs1.length : Int) < 1) = false := by simp; omega
    by_cases h2 : 24 < fs1.length
    case pos =>
      have hb2 : decide ((24 : Int) < fs1.length) = true := by simp; omega
      have HF := hid (show bookOk fs1 = false by rw [bookOk, inR_f (by omega)]; rfl)
      clear h1 h2 HC
      go_enter Try.func91, Try.ntmps91
      go_wp2_with fail
      go_ret
      exact ⟨ret_bool HF.out.symm, HB.out⟩
    case neg =>
      have hb2 : decide ((24 : Int) < fs1.length) = false := by simp; omega
      have HF := hid (show bookOk fs1 = defsOk fs1.length fs1 by rw [bookOk, inR_t (by omega) (by omega)]; rfl)
      clear h1 h2
      go_enter Try.func91, Try.ntmps91
      go_wp2_with fail
      refine HC.out.mono ?_
      rintro e w1 ⟨rfl, hb⟩
      have HB1 := hid (HB.out.trans (hb.mono HB.out.size))
      clear hb
      go_wp2_with fail
      go_ret
      exact ⟨ret_bool (by rw [HF.out]), HB1.out⟩
end Go.Proofs.Ytlbebnmhldolnaa
