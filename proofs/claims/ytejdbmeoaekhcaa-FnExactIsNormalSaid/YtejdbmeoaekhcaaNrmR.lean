/- Walks: IsNormal in the reference and in the program. No condition. -/
import Derived.Test.YtejdbmeoaekhcaaNqB
import Derived.Test.YtejdbmeoaekhcaaNqA
namespace Go.Proofs.Ytejdbmeoaekhcaa
open Go.ChangeShapes Go.WideShapes Go.ChangeAt Go.RowKit
open Go.Sort (grow)
set_option linter.unusedVariables false

def normB (fs : List Co) (c : Co) : Bool := machOk fs c && Co.nor c
set_option maxRecDepth 100000 in
set_option maxHeartbeats 2000000 in
theorem spec_IsNormal (fs1 : List Co) (afs1 : Option Addr) (cfs1 : Nat) (k1 v1 : Int) (ds1 : List Int) (ks1 : List Co) (ads1 : Option Addr) (cds1 : Nat) (aks1 : Option Addr) (cks1 : Nat) (w : World) (hMb : Co.bulks fs1 ≤ 1048576) (hM : Co.bulk (Co.mk k1 v1 ds1 ks1) ≤ 1048576) (hrb : RdS w (Bk.d (.mk fs1)) [.slice afs1 fs1.length cfs1]) (hr : RdS w (Co.d (Co.mk k1 v1 ds1 ks1)) [.int .i64 k1, .int .i64 v1, .slice ads1 ds1.length cds1, .slice aks1 ks1.length cks1]) :
    Calls Try.prog 7 #[.agg #[.slice afs1 fs1.length cfs1], .agg #[.int .i64 k1, .int .i64 v1, .slice ads1 ds1.length cds1, .slice aks1 ks1.length cks1]] w fun e w' => e = .returned (.bool (normB fs1 (Co.mk k1 v1 ds1 ks1))) ∧ Below w.heap.size w w' := by
  have hB1 : Below w.heap.size w (w.alloc (.cells #[.slice afs1 fs1.length cfs1] 33)) := (Below.refl _ _).alloc (Nat.le_refl _) _
  have hB2 : Below w.heap.size w ((w.alloc (.cells #[.slice afs1 fs1.length cfs1] 33)).alloc (.cells #[.int .i64 k1, .int .i64 v1, .slice ads1 ds1.length cds1, .slice aks1 ks1.length cks1] 36)) := hB1.alloc (by simp) _
  have hx0 : ((w.alloc (.cells #[.slice afs1 fs1.length cfs1] 33)).alloc (.cells #[.int .i64 k1, .int .i64 v1, .slice ads1 ds1.length cds1, .slice aks1 ks1.length cks1] 36)).heap[w.heap.size]? = some (.cells #[.slice afs1 fs1.length cfs1] 33) := by rw [Below.heap_alloc _ _ _ (by simp)]; exact heap_alloc_new w _
  have hx1 : ((w.alloc (.cells #[.slice afs1 fs1.length cfs1] 33)).alloc (.cells #[.int .i64 k1, .int .i64 v1, .slice ads1 ds1.length cds1, .slice aks1 ks1.length cks1] 36)).heap[w.heap.size + 1]? = some (.cells #[.int .i64 k1, .int .i64 v1, .slice ads1 ds1.length cds1, .slice aks1 ks1.length cks1] 36) := by
    have h := heap_alloc_new (w.alloc (.cells #[.slice afs1 fs1.length cfs1] 33)) (.cells #[.int .i64 k1, .int .i64 v1, .slice ads1 ds1.length cds1, .slice aks1 ks1.length cks1] 36)
    rw [World.size_alloc] at h; exact h
  have hsz : ((w.alloc (.cells #[.slice afs1 fs1.length cfs1] 33)).alloc (.cells #[.int .i64 k1, .int .i64 v1, .slice ads1 ds1.length cds1, .slice aks1 ks1.length cks1] 36)).heap.size = w.heap.size + 2 := by simp
  have HX0 := hid hx0
  have HX1 := hid hx1
  have HB2 := hid hB2
  have HSZ := hid hsz
  have HGD := hid (fun h : machOk fs1 (Co.mk k1 v1 ds1 ks1) = true => mach_good h)
  have hdef : normB fs1 (Co.mk k1 v1 ds1 ks1) = (machOk fs1 (Co.mk k1 v1 ds1 ks1) && Co.nor (Co.mk k1 v1 ds1 ks1)) := rfl
  have hmc := spec_l08State fs1 afs1 cfs1 k1 v1 ds1 ks1 ads1 cds1 aks1 cks1 w.heap.size 0 (w.heap.size + 1) 0 ((w.alloc (.cells #[.slice afs1 fs1.length cfs1] 33)).alloc (.cells #[.int .i64 k1, .int .i64 v1, .slice ads1 ds1.length cds1, .slice aks1 ks1.length cks1] 36)) hMb hM (hrb.below hB2) (hr.below hB2) (heap_cell hx0 (j := 0) rfl) (heap_cell hx1 (j := 0) rfl) (heap_cell hx1 (j := 1) rfl) (heap_cell hx1 (j := 2) rfl) (heap_cell hx1 (j := 3) rfl)
  rw [mach_spec] at hmc
  cases hk : machOk fs1 (Co.mk k1 v1 ds1 ks1)
  case false =>
    rw [hk] at hmc hdef
    rw [hdef]
    have HC := hid hmc
    clear hmc hr hrb hM hMb hB1 hB2 hx0 hx1 hsz hk hdef
    go_enter Try.func7, Try.ntmps7
    go_wp2_with fail
    refine HC.out.mono ?_
    rintro e w2 ⟨rfl, hb⟩
    have HB3 := hid (HB2.out.trans (hb.mono (by rw [HSZ.out]; omega)))
    clear hb
    go_wp2_with fail
    go_ret
    exact ⟨by simp, HB3.out⟩
  case true =>
    rw [hk] at hmc hdef
    rw [hdef, Bool.true_and]
    have hgr := HGD.out hk
    have hin := fun (W : World) (hb : Below ((w.alloc (.cells #[.slice afs1 fs1.length cfs1] 33)).alloc (.cells #[.int .i64 k1, .int .i64 v1, .slice ads1 ds1.length cds1, .slice aks1 ks1.length cks1] 36)).heap.size ((w.alloc (.cells #[.slice afs1 fs1.length cfs1] 33)).alloc (.cells #[.int .i64 k1, .int .i64 v1, .slice ads1 ds1.length cds1, .slice aks1 ks1.length cks1] 36)) W) => inner_all fs1 afs1 cfs1 (Co.bulk (Co.mk k1 v1 ds1 ks1) + 1) (Co.mk k1 v1 ds1 ks1) w.heap.size 0 (w.heap.size + 1) 0 W (by omega) hM hgr.1 hgr.2 (heap_cell ((hb.block w.heap.size (by rw [hsz]; omega)).trans hx0) (j := 0) rfl) ((hrb.fBk.below hB2).below hb)
      (AtC.box ((hb.block (w.heap.size + 1) (by rw [hsz]; omega)).trans hx1) ((hr.below hB2).below hb))
    have HIN := hid hin
    have HC := hid hmc
    clear hmc hr hrb hM hMb hB1 hB2 hx0 hx1 hsz hk hdef hgr hin
    generalize Co.nor (Co.mk k1 v1 ds1 ks1) = nb at HIN ⊢
    go_enter Try.func7, Try.ntmps7
    go_wp2_with fail
    refine HC.out.mono ?_
    rintro e w2 ⟨rfl, hb⟩
    have HB3 := hid (HB2.out.trans (hb.mono (by rw [HSZ.out]; omega)))
    have HI2 := hid (HIN.out w2 hb)
    clear hb HIN
    go_wp2_with fail
    refine HI2.out.mono ?_
    rintro e w3 ⟨k5, v5, a5, n5, c5, p5, m5, d5, z, q5, rfl, hz, hb⟩
    have HB4 := hid ((HB3.out.trans (hb.mono HB3.out.size)).alloc (by have := HB3.out.size; have := hb.size; omega) (.cells #[.int .i64 k5, .int .i64 v5, .slice a5 n5 c5, .slice p5 m5 d5] 36))
    have HZ := hid hz
    clear hb hz HI2
    by_cases h0 : z = 0
    case pos =>
      subst h0
      have HQ := hid (show nb = true from by have h := HZ.out; simpa using h.symm)
      go_wp2_with fail
      go_ret
      exact ⟨by rw [HQ.out]; rfl, HB4.out⟩
    case neg =>
      have g0 : (z == 0) = false := by simp [h0]
      have HQ := hid (show nb = false from by have h := HZ.out; rw [decide_eq_false h0] at h; exact h.symm)
      clear h0
      go_wp2_with fail
      go_ret
      exact ⟨by rw [HQ.out]; rfl, HB4.out⟩
set_option maxRecDepth 100000 in
set_option maxHeartbeats 2000000 in
theorem impl_IsNormal (fs1 : List Co) (afs1 : Option Addr) (cfs1 : Nat) (k1 v1 : Int) (ds1 : List Int) (ks1 : List Co) (ads1 : Option Addr) (cds1 : Nat) (aks1 : Option Addr) (cks1 : Nat) (w : World) (hMb : Co.bulks fs1 ≤ 1048576) (hM : Co.bulk (Co.mk k1 v1 ds1 ks1) ≤ 1048576) (hrb : RdS w (Bk.d (.mk fs1)) [.slice afs1 fs1.length cfs1]) (hr : RdS w (Co.d (Co.mk k1 v1 ds1 ks1)) [.int .i64 k1, .int .i64 v1, .slice ads1 ds1.length cds1, .slice aks1 ks1.length cks1]) :
    Calls Try.prog 10 #[.agg #[.slice afs1 fs1.length cfs1], .agg #[.int .i64 k1, .int .i64 v1, .slice ads1 ds1.length cds1, .slice aks1 ks1.length cks1]] w fun e w' => e = .returned (.bool (normB fs1 (Co.mk k1 v1 ds1 ks1))) ∧ Below w.heap.size w w' := by
  have hB1 : Below w.heap.size w (w.alloc (.cells #[.slice afs1 fs1.length cfs1] 33)) := (Below.refl _ _).alloc (Nat.le_refl _) _
  have hB2 : Below w.heap.size w ((w.alloc (.cells #[.slice afs1 fs1.length cfs1] 33)).alloc (.cells #[.int .i64 k1, .int .i64 v1, .slice ads1 ds1.length cds1, .slice aks1 ks1.length cks1] 36)) := hB1.alloc (by simp) _
  have hx0 : ((w.alloc (.cells #[.slice afs1 fs1.length cfs1] 33)).alloc (.cells #[.int .i64 k1, .int .i64 v1, .slice ads1 ds1.length cds1, .slice aks1 ks1.length cks1] 36)).heap[w.heap.size]? = some (.cells #[.slice afs1 fs1.length cfs1] 33) := by rw [Below.heap_alloc _ _ _ (by simp)]; exact heap_alloc_new w _
  have hx1 : ((w.alloc (.cells #[.slice afs1 fs1.length cfs1] 33)).alloc (.cells #[.int .i64 k1, .int .i64 v1, .slice ads1 ds1.length cds1, .slice aks1 ks1.length cks1] 36)).heap[w.heap.size + 1]? = some (.cells #[.int .i64 k1, .int .i64 v1, .slice ads1 ds1.length cds1, .slice aks1 ks1.length cks1] 36) := by
    have h := heap_alloc_new (w.alloc (.cells #[.slice afs1 fs1.length cfs1] 33)) (.cells #[.int .i64 k1, .int .i64 v1, .slice ads1 ds1.length cds1, .slice aks1 ks1.length cks1] 36)
    rw [World.size_alloc] at h; exact h
  have hsz : ((w.alloc (.cells #[.slice afs1 fs1.length cfs1] 33)).alloc (.cells #[.int .i64 k1, .int .i64 v1, .slice ads1 ds1.length cds1, .slice aks1 ks1.length cks1] 36)).heap.size = w.heap.size + 2 := by simp
  have HX0 := hid hx0
  have HX1 := hid hx1
  have HB2 := hid hB2
  have HSZ := hid hsz
  have HGD := hid (fun h : machOk fs1 (Co.mk k1 v1 ds1 ks1) = true => mach_good h)
  have hdef : normB fs1 (Co.mk k1 v1 ds1 ks1) = (machOk fs1 (Co.mk k1 v1 ds1 ks1) && Co.nor (Co.mk k1 v1 ds1 ks1)) := rfl
  have hmc := impl_isMachineState fs1 afs1 cfs1 k1 v1 ds1 ks1 ads1 cds1 aks1 cks1 ((w.alloc (.cells #[.slice afs1 fs1.length cfs1] 33)).alloc (.cells #[.int .i64 k1, .int .i64 v1, .slice ads1 ds1.length cds1, .slice aks1 ks1.length cks1] 36)) hMb hM (hrb.below hB2) (hr.below hB2)
  rw [show (bookEra fs1 && (((Co.ok (Co.mk k1 v1 ds1 ks1) && Co.clo (Co.mk k1 v1 ds1 ks1) 0) && (Co.ok (Co.mk k1 v1 ds1 ks1) && Co.era (Co.mk k1 v1 ds1 ks1))) && Co.refs (Co.mk k1 v1 ds1 ks1) (fs1.length : Int))) = machOk fs1 (Co.mk k1 v1 ds1 ks1) from rfl] at hmc
  have d0 := heap_cell hx0 (j := 0) rfl
  have d1 := heap_cell hx1 (j := 0) rfl
  have d2 := heap_cell hx1 (j := 1) rfl
  have d3 := heap_cell hx1 (j := 2) rfl
  have d4 := heap_cell hx1 (j := 3) rfl
  cases hk : machOk fs1 (Co.mk k1 v1 ds1 ks1)
  case false =>
    rw [hk] at hmc hdef
    rw [hdef]
    have HC := hid hmc
    clear hmc hr hrb hM hMb hB1 hB2 hx0 hx1 hsz hk hdef
    go_enter Try.func10, Try.ntmps10
    go_wp2_with fail
    refine HC.out.mono ?_
    rintro e w2 ⟨rfl, hb⟩
    have HB3 := hid (HB2.out.trans (hb.mono (by rw [HSZ.out]; omega)))
    clear hb d0 d1 d2 d3 d4
    go_wp2_with fail
    go_ret
    exact ⟨by simp, HB3.out⟩
  case true =>
    rw [hk] at hmc hdef
    rw [hdef, Bool.true_and]
    have hgr := HGD.out hk
    have hin := fun (W : World) (hb : Below w.heap.size w W) => impl_isNormalTerm k1 v1 ds1 ks1 ads1 cds1 aks1 cks1 W hgr.1 (hr.below hb)
    have HIN := hid hin
    have HC := hid hmc
    clear hmc hr hrb hM hMb hB1 hB2 hx0 hsz hk hdef hgr hin
    generalize Co.nor (Co.mk k1 v1 ds1 ks1) = nb at HIN ⊢
    go_enter Try.func10, Try.ntmps10
    go_wp2_with fail
    refine HC.out.mono ?_
    rintro e w2 ⟨rfl, hb⟩
    have HB3 := hid (HB2.out.trans (hb.mono (by rw [HSZ.out]; omega)))
    have hx2 := (hb.block (w.heap.size + 1) (by rw [HSZ.out]; omega)).trans HX1.out
    have e1 := heap_cell hx2 (j := 0) rfl
    have e2 := heap_cell hx2 (j := 1) rfl
    have e3 := heap_cell hx2 (j := 2) rfl
    have e4 := heap_cell hx2 (j := 3) rfl
    clear hb d0 d1 d2 d3 d4 hx1 hx2
    go_wp2_with fail
    refine (HIN.out _ HB3.out).mono ?_
    rintro e w3 ⟨rfl, hb⟩
    have HB4 := hid (HB3.out.trans (hb.mono HB3.out.size))
    clear hb e1 e2 e3 e4
    go_wp2_with fail
    go_ret
    exact ⟨by simp, HB4.out⟩
end Go.Proofs.Ytejdbmeoaekhcaa
