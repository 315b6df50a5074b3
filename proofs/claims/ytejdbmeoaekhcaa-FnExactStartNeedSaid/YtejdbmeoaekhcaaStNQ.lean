/- Walks: StartNeed in the reference and in the program. No condition. -/
import Derived.Test.YtejdbmeoaekhcaaShS
import Derived.Test.YtejdbmeoaekhcaaCpI
import Derived.Test.YtejdbmeoaekhcaaMqA
import Derived.Test.YtejdbmeoaekhcaaDNe
namespace Go.Proofs.Ytejdbmeoaekhcaa
open Go.ChangeShapes Go.WideShapes Go.ChangeAt Go.RowKit
open Go.Sort (grow)
set_option linter.unusedVariables false

theorem GivesC.store {w w2 : World} {k v : Int} {ds : List Int} {ks : List Co} {ad a : Option Addr} {cd c : Nat} (h1 : OwnS w2 (w.heap.size + 1) (Co.d (.mk k v ds ks)) [.int .i64 k, .int .i64 v, .slice ad ds.length cd, .slice a ks.length c]) (h2 : Below w.heap.size w w2) (p q r u : Value) :
    GivesC (.mk k v ds ks) w (.returned (.agg #[.int .i64 k, .int .i64 v, .slice ad ds.length cd, .slice a ks.length c])) (set4W w2 w.heap.size p q r u) :=
  ⟨ad, cd, a, c, rfl, OwnS.mono (OwnS.keep h1 fun x hx _ => set4_ne _ _ _ _ (by omega)) (Nat.le_succ _), set4_below h2 (Nat.le_refl _) _ _ _ _⟩
set_option maxHeartbeats 1000000 in
theorem spec_l06Own (k1 v1 : Int) (ds1 : List Int) (ks1 : List Co) (ads1 : Option Addr) (cds1 : Nat) (aks1 : Option Addr) (cks1 : Nat) (b1 o1 : Nat) (w : World) (hM : Co.bulk (Co.mk k1 v1 ds1 ks1) ≤ 1048576) (hg : Co.good (Co.mk k1 v1 ds1 ks1) = true) (x0 : w.cell? ⟨b1, o1, none⟩ = some (.int .i64 k1)) (x1 : w.cell? ⟨b1, o1 + 1, none⟩ = some (.int .i64 v1)) (x2 : w.cell? ⟨b1, o1 + 2, none⟩ = some (.slice ads1 ds1.length cds1)) (x3 : w.cell? ⟨b1, o1 + 3, none⟩ = some (.slice aks1 ks1.length cks1)) (hr : RdS w (Co.d (Co.mk k1 v1 ds1 ks1)) [.int .i64 k1, .int .i64 v1, .slice ads1 ds1.length cds1, .slice aks1 ks1.length cks1]) :
    Calls Try.prog 30 #[.pointer (some ⟨b1, o1, none⟩)] w (GivesC (Co.mk k1 v1 ds1 ks1) w) := by
  have hB1 : Below w.heap.size w (w.alloc (.cells #[.int .i64 0, .int .i64 0, .slice none 0 0, .slice none 0 0] 36)) := (Below.refl _ _).alloc (Nat.le_refl _) _
  have l1 := World.block_lt_of_cell? _ _ x3
  have hc := sh_all (Co.bulk (Co.mk k1 v1 ds1 ks1) + 1) k1 v1 ds1 ks1 ads1 cds1 aks1 cks1 b1 o1 0 0 (w.alloc (.cells #[.int .i64 0, .int .i64 0, .slice none 0 0, .slice none 0 0] 36)) (by omega) hM ((hB1.cell (p := ⟨b1, o1, none⟩) l1).trans x0) ((hB1.cell (p := ⟨b1, o1 + 1, none⟩) l1).trans x1) ((hB1.cell (p := ⟨b1, o1 + 2, none⟩) l1).trans x2) ((hB1.cell (p := ⟨b1, o1 + 3, none⟩) l1).trans x3) (hr.below hB1)
  rw [Co.sh_zero _ _ hg] at hc
  have HC := hid hc
  have HB1 := hid hB1
  have HRZ := hid (show (w.alloc (.cells #[.int .i64 0, .int .i64 0, .slice none 0 0, .slice none 0 0] 36)).heap[w.heap.size]? = some (.cells #[.int .i64 0, .int .i64 0, .slice none 0 0, .slice none 0 0] 36) from heap_alloc_new w _)
  clear hc hB1 hr x0 x1 x2 x3 hM hg l1
  go_enter Try.func30, Try.ntmps30
  go_wp2_with fail
  refine HC.out.mono ?_
  rintro e w2 ⟨ad, cd, a, c, rfl, ho, hb⟩
  have HR2 := hid ((hb.block w.heap.size (by simp)).trans HRZ.out)
  have HB2 := hid (HB1.out.trans (hb.mono (by simp)))
  have HO2 := hid (show OwnS w2 (w.heap.size + 1) _ _ from by rw [World.size_alloc] at ho; exact ho)
  have q0 := heap_free HR2.out 0
  have q1 := heap_free HR2.out 1
  have q2 := heap_free HR2.out 2
  have q3 := heap_free HR2.out 3
  have r0 := heap_cell HR2.out (j := 0) rfl
  have r1 := heap_cell HR2.out (j := 1) rfl
  have r2 := heap_cell HR2.out (j := 2) rfl
  have r3 := heap_cell HR2.out (j := 3) rfl
  clear ho hb
  go_wp2_with fail
  have hS := set4 HR2.out (.int .i64 k1) (.int .i64 v1) (.slice ad ds1.length cd) (.slice a ks1.length c)
  have hc0 := heap_cell hS (j := 0) rfl
  have hc1 := heap_cell hS (j := 1) rfl
  have hc2 := heap_cell hS (j := 2) rfl
  have hc3 := heap_cell hS (j := 3) rfl
  refine bodyPost_ret (v := .agg #[.int .i64 k1, .int .i64 v1, .slice ad ds1.length cd, .slice a ks1.length c]) (by simp [results, Try.results30, go_sem, hc0, hc1, hc2, hc3]) rfl ?_
  exact GivesC.store HO2.out HB2.out _ _ _ _
/-- The state at the start: its control's term, its code. -/
def startC (fs : List Co) (c : Co) : Co × Int := if machOk fs c then (c, 0) else (.mk 0 0 [] [], 1)
def GivesN : Co → Int → World → Ending → World → Prop
  | .mk k v ds ks, q, w, e, w' => ∃ (ad : Option Addr) (cd : Nat) (a : Option Addr) (c : Nat), e = .returned (.tuple #[.agg #[.int .i64 k, .int .i64 v, .slice ad ds.length cd, .slice a ks.length c, .slice none 0 0, .slice none 0 0, .slice none 0 0], .int .i64 q]) ∧ OwnS w' w.heap.size (Co.d (.mk k v ds ks)) [.int .i64 k, .int .i64 v, .slice ad ds.length cd, .slice a ks.length c] ∧ Below w.heap.size w w'
theorem Ne.rd_mk {w : World} {F : List Nat} {k v : Int} {ds : List Int} {ks : List Co} {ad a : Option Addr} {cd c : Nat} (r : Rd w (Co.d (.mk k v ds ks)) [.int .i64 k, .int .i64 v, .slice ad ds.length cd, .slice a ks.length c] F) : Rd w (Ne.d (.mk (.mk (.mk k v ds ks) []) [] [])) [.int .i64 k, .int .i64 v, .slice ad ds.length cd, .slice a ks.length c, .slice none 0 0, .slice none 0 0, .slice none 0 0] F := by
  have hn : Rd w (.list []) [.slice none 0 0] [] := Rd.nil_mk (by omega)
  have h1 : Rd w (Cl.d (.mk (.mk k v ds ks) [])) [.int .i64 k, .int .i64 v, .slice ad ds.length cd, .slice a ks.length c, .slice none 0 0] F := by
    have := Rd.struct_mk (RdAll.cons r (RdAll.one hn))
    simpa [Cl.d, In.ds] using this
  have := Rd.struct_mk (RdAll.cons h1 (RdAll.cons hn (RdAll.one hn)))
  simpa [Ne.d, Fr.ds, Th.ds] using this
theorem startC_eta (fs : List Co) (c : Co) : ∃ k v ds ks q, startC fs c = (Co.mk k v ds ks, q) := by
  obtain ⟨k, v, ds, ks, h⟩ := Co.eta (startC fs c).1
  exact ⟨k, v, ds, ks, (startC fs c).2, by rw [← h]⟩
theorem startC_bulk (fs : List Co) (c : Co) : Co.bulk (startC fs c).1 ≤ Co.bulk c := by
  unfold startC
  split
  · exact Nat.le_refl _
  · simp [Co.bulk, In.bulks, Co.bulks]
abbrev set7W (w : World) (b : Nat) (p q r u x y z : Value) : World := (((set4W w b p q r u).setCell ⟨b, 4, none⟩ x).setCell ⟨b, 5, none⟩ y).setCell ⟨b, 6, none⟩ z
theorem set7_ne {w : World} {b k : Nat} (p q r u x y z : Value) (h : k ≠ b) : (set7W w b p q r u x y z).heap[k]? = w.heap[k]? :=
  (heap_set_ne0 z h).trans ((heap_set_ne0 y h).trans ((heap_set_ne0 x h).trans (set4_ne p q r u h)))
theorem set7_below {w w0 : World} {B b : Nat} (h : Below B w0 w) (hb : B ≤ b) (p q r u x y z : Value) : Below B w0 (set7W w b p q r u x y z) :=
  (((set4_below h hb p q r u).setCell hb _).setCell hb _).setCell hb _
theorem set7 {w : World} {b : Nat} {T : TypeId} {c0 c1 c2 c3 c4 c5 c6 : Value} (h : w.heap[b]? = some (.cells #[c0, c1, c2, c3, c4, c5, c6] T (0, 0))) (p q r u x y z : Value) : (set7W w b p q r u x y z).heap[b]? = some (.cells #[p, q, r, u, x, y, z] T (0, 0)) := by
  have h0 := h
  have h1 : (World.setCell w ⟨b, 0, none⟩ p).heap[b]? = some (.cells #[p, c1, c2, c3, c4, c5, c6] T (0, 0)) := heap_setCell_at _ b 0 p h0
  have h2 : (World.setCell (World.setCell w ⟨b, 0, none⟩ p) ⟨b, 1, none⟩ q).heap[b]? = some (.cells #[p, q, c2, c3, c4, c5, c6] T (0, 0)) := heap_setCell_at _ b 1 q h1
  have h3 : (World.setCell (World.setCell (World.setCell w ⟨b, 0, none⟩ p) ⟨b, 1, none⟩ q) ⟨b, 2, none⟩ r).heap[b]? = some (.cells #[p, q, r, c3, c4, c5, c6] T (0, 0)) := heap_setCell_at _ b 2 r h2
  have h4 : (World.setCell (World.setCell (World.setCell (World.setCell w ⟨b, 0, none⟩ p) ⟨b, 1, none⟩ q) ⟨b, 2, none⟩ r) ⟨b, 3, none⟩ u).heap[b]? = some (.cells #[p, q, r, u, c4, c5, c6] T (0, 0)) := heap_setCell_at _ b 3 u h3
  have h5 : (World.setCell (World.setCell (World.setCell (World.setCell (World.setCell w ⟨b, 0, none⟩ p) ⟨b, 1, none⟩ q) ⟨b, 2, none⟩ r) ⟨b, 3, none⟩ u) ⟨b, 4, none⟩ x).heap[b]? = some (.cells #[p, q, r, u, x, c5, c6] T (0, 0)) := heap_setCell_at _ b 4 x h4
  have h6 : (World.setCell (World.setCell (World.setCell (World.setCell (World.setCell (World.setCell w ⟨b, 0, none⟩ p) ⟨b, 1, none⟩ q) ⟨b, 2, none⟩ r) ⟨b, 3, none⟩ u) ⟨b, 4, none⟩ x) ⟨b, 5, none⟩ y).heap[b]? = some (.cells #[p, q, r, u, x, y, c6] T (0, 0)) := heap_setCell_at _ b 5 y h5
  have h7 : (World.setCell (World.setCell (World.setCell (World.setCell (World.setCell (World.setCell (World.setCell w ⟨b, 0, none⟩ p) ⟨b, 1, none⟩ q) ⟨b, 2, none⟩ r) ⟨b, 3, none⟩ u) ⟨b, 4, none⟩ x) ⟨b, 5, none⟩ y) ⟨b, 6, none⟩ z).heap[b]? = some (.cells #[p, q, r, u, x, y, z] T (0, 0)) := heap_setCell_at _ b 6 z h6
  exact h7
theorem GivesN.store {w w2 : World} {q0 : Int} {k v : Int} {ds : List Int} {ks : List Co} {ad a : Option Addr} {cd c b : Nat} (hb : w.heap.size ≤ b) (h1 : OwnS w2 (b + 1) (Co.d (.mk k v ds ks)) [.int .i64 k, .int .i64 v, .slice ad ds.length cd, .slice a ks.length c]) (h2 : Below w.heap.size w w2) (p q r u x y z : Value) :
    GivesN (.mk k v ds ks) q0 w (.returned (.tuple #[.agg #[.int .i64 k, .int .i64 v, .slice ad ds.length cd, .slice a ks.length c, .slice none 0 0, .slice none 0 0, .slice none 0 0], .int .i64 q0])) (set7W w2 b p q r u x y z) :=
  ⟨ad, cd, a, c, rfl, OwnS.mono (OwnS.keep h1 fun i hi _ => set7_ne _ _ _ _ _ _ _ (by omega)) (by omega), set7_below h2 hb _ _ _ _ _ _ _⟩
theorem own_none (w : World) (B : Nat) : OwnS w B (Co.d (.mk 0 0 [] [])) [.int .i64 0, .int .i64 0, .slice none ([] : List Int).length 0, .slice none ([] : List Co).length 0] := by
  have hn : Rd w (.list []) [.slice none 0 0] [] := Rd.nil_mk (by omega)
  refine ⟨[], ?_, Owned.nil _ _⟩
  have := Rd.struct_mk (RdAll.cons (Rd.int_mk (w := w) (n := 0) (by omega) (by omega)) (RdAll.cons (Rd.int_mk (w := w) (n := 0) (by omega) (by omega)) (RdAll.cons hn (RdAll.one hn))))
  simpa [Co.d, In.ds, Co.ds] using this
set_option maxRecDepth 100000 in
set_option maxHeartbeats 2000000 in
theorem spec_StartNeed (fs1 : List Co) (afs1 : Option Addr) (cfs1 : Nat) (k1 v1 : Int) (ds1 : List Int) (ks1 : List Co) (ads1 : Option Addr) (cds1 : Nat) (aks1 : Option Addr) (cks1 : Nat) (w : World) (hMb : Co.bulks fs1 ≤ 1048576) (hM : Co.bulk (Co.mk k1 v1 ds1 ks1) ≤ 1048576) (hrb : RdS w (Bk.d (.mk fs1)) [.slice afs1 fs1.length cfs1]) (hr : RdS w (Co.d (Co.mk k1 v1 ds1 ks1)) [.int .i64 k1, .int .i64 v1, .slice ads1 ds1.length cds1, .slice aks1 ks1.length cks1]) :
    Calls Try.prog 13 #[.agg #[.slice afs1 fs1.length cfs1], .agg #[.int .i64 k1, .int .i64 v1, .slice ads1 ds1.length cds1, .slice aks1 ks1.length cks1]] w (GivesN (startC fs1 (Co.mk k1 v1 ds1 ks1)).1 (startC fs1 (Co.mk k1 v1 ds1 ks1)).2 w) := by
  have hB1 : Below w.heap.size w (w.alloc (.cells #[.slice afs1 fs1.length cfs1] 33)) := (Below.refl _ _).alloc (Nat.le_refl _) _
  have hB2 : Below w.heap.size w ((w.alloc (.cells #[.slice afs1 fs1.length cfs1] 33)).alloc (.cells #[.int .i64 k1, .int .i64 v1, .slice ads1 ds1.length cds1, .slice aks1 ks1.length cks1] 36)) := hB1.alloc (by simp) _
  have hB3 : Below w.heap.size w (((w.alloc (.cells #[.slice afs1 fs1.length cfs1] 33)).alloc (.cells #[.int .i64 k1, .int .i64 v1, .slice ads1 ds1.length cds1, .slice aks1 ks1.length cks1] 36)).alloc (.cells #[.int .i64 0, .int .i64 0, .slice none 0 0, .slice none 0 0, .slice none 0 0, .slice none 0 0, .slice none 0 0] 46)) := hB2.alloc (by simp; omega) _
  have hx0 : (((w.alloc (.cells #[.slice afs1 fs1.length cfs1] 33)).alloc (.cells #[.int .i64 k1, .int .i64 v1, .slice ads1 ds1.length cds1, .slice aks1 ks1.length cks1] 36)).alloc (.cells #[.int .i64 0, .int .i64 0, .slice none 0 0, .slice none 0 0, .slice none 0 0, .slice none 0 0, .slice none 0 0] 46)).heap[w.heap.size]? = some (.cells #[.slice afs1 fs1.length cfs1] 33) := by rw [Below.heap_alloc _ _ _ (by simp; omega), Below.heap_alloc _ _ _ (by simp)]; exact heap_alloc_new w _
  have hx1 : (((w.alloc (.cells #[.slice afs1 fs1.length cfs1] 33)).alloc (.cells #[.int .i64 k1, .int .i64 v1, .slice ads1 ds1.length cds1, .slice aks1 ks1.length cks1] 36)).alloc (.cells #[.int .i64 0, .int .i64 0, .slice none 0 0, .slice none 0 0, .slice none 0 0, .slice none 0 0, .slice none 0 0] 46)).heap[w.heap.size + 1]? = some (.cells #[.int .i64 k1, .int .i64 v1, .slice ads1 ds1.length cds1, .slice aks1 ks1.length cks1] 36) := by
    rw [Below.heap_alloc _ _ _ (by simp)]
    have h := heap_alloc_new (w.alloc (.cells #[.slice afs1 fs1.length cfs1] 33)) (.cells #[.int .i64 k1, .int .i64 v1, .slice ads1 ds1.length cds1, .slice aks1 ks1.length cks1] 36)
    rw [World.size_alloc] at h; exact h
  have hx2 : (((w.alloc (.cells #[.slice afs1 fs1.length cfs1] 33)).alloc (.cells #[.int .i64 k1, .int .i64 v1, .slice ads1 ds1.length cds1, .slice aks1 ks1.length cks1] 36)).alloc (.cells #[.int .i64 0, .int .i64 0, .slice none 0 0, .slice none 0 0, .slice none 0 0, .slice none 0 0, .slice none 0 0] 46)).heap[w.heap.size + 2]? = some (.cells #[.int .i64 0, .int .i64 0, .slice none 0 0, .slice none 0 0, .slice none 0 0, .slice none 0 0, .slice none 0 0] 46) := by
    have h := heap_alloc_new ((w.alloc (.cells #[.slice afs1 fs1.length cfs1] 33)).alloc (.cells #[.int .i64 k1, .int .i64 v1, .slice ads1 ds1.length cds1, .slice aks1 ks1.length cks1] 36)) (.cells #[.int .i64 0, .int .i64 0, .slice none 0 0, .slice none 0 0, .slice none 0 0, .slice none 0 0, .slice none 0 0] 46)
    rw [World.size_alloc, World.size_alloc] at h; exact h
  have hsz : (((w.alloc (.cells #[.slice afs1 fs1.length cfs1] 33)).alloc (.cells #[.int .i64 k1, .int .i64 v1, .slice ads1 ds1.length cds1, .slice aks1 ks1.length cks1] 36)).alloc (.cells #[.int .i64 0, .int .i64 0, .slice none 0 0, .slice none 0 0, .slice none 0 0, .slice none 0 0, .slice none 0 0] 46)).heap.size = w.heap.size + 3 := by simp
  have hmc := spec_l08State fs1 afs1 cfs1 k1 v1 ds1 ks1 ads1 cds1 aks1 cks1 w.heap.size 0 (w.heap.size + 1) 0 (((w.alloc (.cells #[.slice afs1 fs1.length cfs1] 33)).alloc (.cells #[.int .i64 k1, .int .i64 v1, .slice ads1 ds1.length cds1, .slice aks1 ks1.length cks1] 36)).alloc (.cells #[.int .i64 0, .int .i64 0, .slice none 0 0, .slice none 0 0, .slice none 0 0, .slice none 0 0, .slice none 0 0] 46)) hMb hM (hrb.below hB3) (hr.below hB3) (heap_cell hx0 (j := 0) rfl) (heap_cell hx1 (j := 0) rfl) (heap_cell hx1 (j := 1) rfl) (heap_cell hx1 (j := 2) rfl) (heap_cell hx1 (j := 3) rfl)
  rw [mach_spec] at hmc
  have HX0 := hid hx0
  have HX1 := hid hx1
  have HX2 := hid hx2
  have HB3 := hid hB3
  have HR := hid hr
  have HMM := hid hM
  have HSZ := hid hsz
  have hdef : startC fs1 (Co.mk k1 v1 ds1 ks1) = if machOk fs1 (Co.mk k1 v1 ds1 ks1) then (Co.mk k1 v1 ds1 ks1, 0) else (.mk 0 0 [] [], 1) := rfl
  have HGD := hid (fun h : machOk fs1 (Co.mk k1 v1 ds1 ks1) = true => (mach_good h).1)
  cases hk : machOk fs1 (Co.mk k1 v1 ds1 ks1)
  case false =>
    rw [hk] at hmc hdef
    have HC := hid hmc
    have HDEF := hid hdef
    rw [HDEF.out]
    clear hmc hdef hr hrb hM hMb hB1 hB2 hB3 hx0 hx1 hx2 hsz hk
    go_enter Try.func13, Try.ntmps13
    go_wp2_with fail
    refine HC.out.mono ?_
    rintro e w2 ⟨rfl, hb⟩
    have HN2 := hid ((hb.block (w.heap.size + 2) (by rw [HSZ.out]; omega)).trans HX2.out)
    have HB4 := hid (HB3.out.trans (hb.mono (by rw [HSZ.out]; omega)))
    clear hb
    have z0 := heap_free HN2.out 0
    have r0 := heap_cell HN2.out (j := 0) rfl
    have z1 := heap_free HN2.out 1
    have r1 := heap_cell HN2.out (j := 1) rfl
    have z2 := heap_free HN2.out 2
    have r2 := heap_cell HN2.out (j := 2) rfl
    have z3 := heap_free HN2.out 3
    have r3 := heap_cell HN2.out (j := 3) rfl
    have z4 := heap_free HN2.out 4
    have r4 := heap_cell HN2.out (j := 4) rfl
    have z5 := heap_free HN2.out 5
    have r5 := heap_cell HN2.out (j := 5) rfl
    have z6 := heap_free HN2.out 6
    have r6 := heap_cell HN2.out (j := 6) rfl
    go_wp2_with fail
    have hS := set7 HN2.out (.int .i64 0) (.int .i64 0) (.slice none 0 0) (.slice none 0 0) (.slice none 0 0) (.slice none 0 0) (.slice none 0 0)
    unfold set7W set4W at hS
    have hc0 := heap_cell hS (j := 0) rfl
    have hc1 := heap_cell hS (j := 1) rfl
    have hc2 := heap_cell hS (j := 2) rfl
    have hc3 := heap_cell hS (j := 3) rfl
    have hc4 := heap_cell hS (j := 4) rfl
    have hc5 := heap_cell hS (j := 5) rfl
    have hc6 := heap_cell hS (j := 6) rfl
    refine bodyPost_ret (v := .tuple #[.agg #[.int .i64 0, .int .i64 0, .slice none 0 0, .slice none 0 0, .slice none 0 0, .slice none 0 0, .slice none 0 0], .int .i64 1]) (by simp [results, Try.results13, go_sem, hc0, hc1, hc2, hc3, hc4, hc5, hc6]) rfl ?_
    exact GivesN.store (k := 0) (v := 0) (ds := []) (ks := []) (ad := none) (a := none) (cd := 0) (c := 0) (by omega) (own_none _ _) HB4.out _ _ _ _ _ _ _
  case true =>
    rw [hk] at hmc hdef
    have HC := hid hmc
    have HDEF := hid hdef
    rw [HDEF.out]
    have HG := hid (HGD.out hk)
    clear hmc hdef hr hrb hM hMb hB1 hB2 hB3 hx0 hx1 hx2 hsz hk
    go_enter Try.func13, Try.ntmps13
    go_wp2_with fail
    refine HC.out.mono ?_
    rintro e w2 ⟨rfl, hb⟩
    have HN2 := hid ((hb.block (w.heap.size + 2) (by rw [HSZ.out]; omega)).trans HX2.out)
    have HC2 := hid ((hb.block (w.heap.size + 1) (by rw [HSZ.out]; omega)).trans HX1.out)
    have HB4 := hid (HB3.out.trans (hb.mono (by rw [HSZ.out]; omega)))
    have HZ2 := hid (show w.heap.size + 3 ≤ w2.heap.size by have := hb.size; rw [HSZ.out] at this; exact this)
    clear hb
    have c0 := heap_cell HC2.out (j := 0) rfl
    have c1 := heap_cell HC2.out (j := 1) rfl
    have c2 := heap_cell HC2.out (j := 2) rfl
    have c3 := heap_cell HC2.out (j := 3) rfl
    have hcp := spec_l06Own k1 v1 ds1 ks1 ads1 cds1 aks1 cks1 (w.heap.size + 1) 0 w2 HMM.out HG.out c0 c1 c2 c3 (HR.out.below HB4.out)
    have HCP := hid hcp
    clear hcp
    go_wp2_with fail
    refine HCP.out.mono ?_
    rintro e w3 ⟨ad, cd, a, c, rfl, ho, hb⟩
    have HN3 := hid ((hb.block (w.heap.size + 2) (by have := HZ2.out; omega)).trans HN2.out)
    have HB5 := hid (HB4.out.trans (hb.mono HB4.out.size))
    have HO := hid (OwnS.mono ho HZ2.out)
    clear ho hb c0 c1 c2 c3 HCP
    have z0 := heap_free HN3.out 0
    have r0 := heap_cell HN3.out (j := 0) rfl
    have z1 := heap_free HN3.out 1
    have r1 := heap_cell HN3.out (j := 1) rfl
    have z2 := heap_free HN3.out 2
    have r2 := heap_cell HN3.out (j := 2) rfl
    have z3 := heap_free HN3.out 3
    have r3 := heap_cell HN3.out (j := 3) rfl
    have z4 := heap_free HN3.out 4
    have r4 := heap_cell HN3.out (j := 4) rfl
    have z5 := heap_free HN3.out 5
    have r5 := heap_cell HN3.out (j := 5) rfl
    have z6 := heap_free HN3.out 6
    have r6 := heap_cell HN3.out (j := 6) rfl
    go_wp2_with fail
    have hS := set7 HN3.out (.int .i64 k1) (.int .i64 v1) (.slice ad ds1.length cd) (.slice a ks1.length c) (.slice none 0 0) (.slice none 0 0) (.slice none 0 0)
    unfold set7W set4W at hS
    have hc0 := heap_cell hS (j := 0) rfl
    have hc1 := heap_cell hS (j := 1) rfl
    have hc2 := heap_cell hS (j := 2) rfl
    have hc3 := heap_cell hS (j := 3) rfl
    have hc4 := heap_cell hS (j := 4) rfl
    have hc5 := heap_cell hS (j := 5) rfl
    have hc6 := heap_cell hS (j := 6) rfl
    refine bodyPost_ret (v := .tuple #[.agg #[.int .i64 k1, .int .i64 v1, .slice ad ds1.length cd, .slice a ks1.length c, .slice none 0 0, .slice none 0 0, .slice none 0 0], .int .i64 0]) (by simp [results, Try.results13, go_sem, hc0, hc1, hc2, hc3, hc4, hc5, hc6]) rfl ?_
    exact GivesN.store (b := w.heap.size + 2) (by omega) HO.out HB5.out _ _ _ _ _ _ _
set_option maxRecDepth 100000 in
set_option maxHeartbeats 2000000 in
theorem impl_StartNeed (fs1 : List Co) (afs1 : Option Addr) (cfs1 : Nat) (k1 v1 : Int) (ds1 : List Int) (ks1 : List Co) (ads1 : Option Addr) (cds1 : Nat) (aks1 : Option Addr) (cks1 : Nat) (w : World) (hMb : Co.bulks fs1 ≤ 1048576) (hM : Co.bulk (Co.mk k1 v1 ds1 ks1) ≤ 1048576) (hrb : RdS w (Bk.d (.mk fs1)) [.slice afs1 fs1.length cfs1]) (hr : RdS w (Co.d (Co.mk k1 v1 ds1 ks1)) [.int .i64 k1, .int .i64 v1, .slice ads1 ds1.length cds1, .slice aks1 ks1.length cks1]) :
    Calls Try.prog 14 #[.agg #[.slice afs1 fs1.length cfs1], .agg #[.int .i64 k1, .int .i64 v1, .slice ads1 ds1.length cds1, .slice aks1 ks1.length cks1]] w (GivesN (startC fs1 (Co.mk k1 v1 ds1 ks1)).1 (startC fs1 (Co.mk k1 v1 ds1 ks1)).2 w) := by
  have hB1 : Below w.heap.size w (w.alloc (.cells #[.slice afs1 fs1.length cfs1] 33)) := (Below.refl _ _).alloc (Nat.le_refl _) _
  have hB2 : Below w.heap.size w ((w.alloc (.cells #[.slice afs1 fs1.length cfs1] 33)).alloc (.cells #[.int .i64 k1, .int .i64 v1, .slice ads1 ds1.length cds1, .slice aks1 ks1.length cks1] 36)) := hB1.alloc (by simp) _
  have hB3 : Below w.heap.size w (((w.alloc (.cells #[.slice afs1 fs1.length cfs1] 33)).alloc (.cells #[.int .i64 k1, .int .i64 v1, .slice ads1 ds1.length cds1, .slice aks1 ks1.length cks1] 36)).alloc (.cells #[.int .i64 0, .int .i64 0, .slice none 0 0, .slice none 0 0, .slice none 0 0, .slice none 0 0, .slice none 0 0] 46)) := hB2.alloc (by simp; omega) _
  have hx0 : (((w.alloc (.cells #[.slice afs1 fs1.length cfs1] 33)).alloc (.cells #[.int .i64 k1, .int .i64 v1, .slice ads1 ds1.length cds1, .slice aks1 ks1.length cks1] 36)).alloc (.cells #[.int .i64 0, .int .i64 0, .slice none 0 0, .slice none 0 0, .slice none 0 0, .slice none 0 0, .slice none 0 0] 46)).heap[w.heap.size]? = some (.cells #[.slice afs1 fs1.length cfs1] 33) := by rw [Below.heap_alloc _ _ _ (by simp; omega), Below.heap_alloc _ _ _ (by simp)]; exact heap_alloc_new w _
  have hx1 : (((w.alloc (.cells #[.slice afs1 fs1.length cfs1] 33)).alloc (.cells #[.int .i64 k1, .int .i64 v1, .slice ads1 ds1.length cds1, .slice aks1 ks1.length cks1] 36)).alloc (.cells #[.int .i64 0, .int .i64 0, .slice none 0 0, .slice none 0 0, .slice none 0 0, .slice none 0 0, .slice none 0 0] 46)).heap[w.heap.size + 1]? = some (.cells #[.int .i64 k1, .int .i64 v1, .slice ads1 ds1.length cds1, .slice aks1 ks1.length cks1] 36) := by
    rw [Below.heap_alloc _ _ _ (by simp)]
    have h := heap_alloc_new (w.alloc (.cells #[.slice afs1 fs1.length cfs1] 33)) (.cells #[.int .i64 k1, .int .i64 v1, .slice ads1 ds1.length cds1, .slice aks1 ks1.length cks1] 36)
    rw [World.size_alloc] at h; exact h
  have hx2 : (((w.alloc (.cells #[.slice afs1 fs1.length cfs1] 33)).alloc (.cells #[.int .i64 k1, .int .i64 v1, .slice ads1 ds1.length cds1, .slice aks1 ks1.length cks1] 36)).alloc (.cells #[.int .i64 0, .int .i64 0, .slice none 0 0, .slice none 0 0, .slice none 0 0, .slice none 0 0, .slice none 0 0] 46)).heap[w.heap.size + 2]? = some (.cells #[.int .i64 0, .int .i64 0, .slice none 0 0, .slice none 0 0, .slice none 0 0, .slice none 0 0, .slice none 0 0] 46) := by
    have h := heap_alloc_new ((w.alloc (.cells #[.slice afs1 fs1.length cfs1] 33)).alloc (.cells #[.int .i64 k1, .int .i64 v1, .slice ads1 ds1.length cds1, .slice aks1 ks1.length cks1] 36)) (.cells #[.int .i64 0, .int .i64 0, .slice none 0 0, .slice none 0 0, .slice none 0 0, .slice none 0 0, .slice none 0 0] 46)
    rw [World.size_alloc, World.size_alloc] at h; exact h
  have hsz : (((w.alloc (.cells #[.slice afs1 fs1.length cfs1] 33)).alloc (.cells #[.int .i64 k1, .int .i64 v1, .slice ads1 ds1.length cds1, .slice aks1 ks1.length cks1] 36)).alloc (.cells #[.int .i64 0, .int .i64 0, .slice none 0 0, .slice none 0 0, .slice none 0 0, .slice none 0 0, .slice none 0 0] 46)).heap.size = w.heap.size + 3 := by simp
  have hmc := impl_isMachineState fs1 afs1 cfs1 k1 v1 ds1 ks1 ads1 cds1 aks1 cks1 (((w.alloc (.cells #[.slice afs1 fs1.length cfs1] 33)).alloc (.cells #[.int .i64 k1, .int .i64 v1, .slice ads1 ds1.length cds1, .slice aks1 ks1.length cks1] 36)).alloc (.cells #[.int .i64 0, .int .i64 0, .slice none 0 0, .slice none 0 0, .slice none 0 0, .slice none 0 0, .slice none 0 0] 46)) hMb hM (hrb.below hB3) (hr.below hB3)
  rw [show (bookEra fs1 && (((Co.ok (Co.mk k1 v1 ds1 ks1) && Co.clo (Co.mk k1 v1 ds1 ks1) 0) && (Co.ok (Co.mk k1 v1 ds1 ks1) && Co.era (Co.mk k1 v1 ds1 ks1))) && Co.refs (Co.mk k1 v1 ds1 ks1) (fs1.length : Int))) = machOk fs1 (Co.mk k1 v1 ds1 ks1) from rfl] at hmc
  have HX0 := hid hx0
  have HX1 := hid hx1
  have HX2 := hid hx2
  have HB3 := hid hB3
  have HR := hid hr
  have HMM := hid hM
  have HSZ := hid hsz
  have hdef : startC fs1 (Co.mk k1 v1 ds1 ks1) = if machOk fs1 (Co.mk k1 v1 ds1 ks1) then (Co.mk k1 v1 ds1 ks1, 0) else (.mk 0 0 [] [], 1) := rfl
  have HGD := hid (fun h : machOk fs1 (Co.mk k1 v1 ds1 ks1) = true => (mach_good h).1)
  cases hk : machOk fs1 (Co.mk k1 v1 ds1 ks1)
  case false =>
    rw [hk] at hmc hdef
    have HC := hid hmc
    have HDEF := hid hdef
    rw [HDEF.out]
    clear hmc hdef hr hrb hM hMb hB1 hB2 hB3 hx0 hx1 hx2 hsz hk
    go_enter Try.func14, Try.ntmps14
    have d0 := heap_cell HX0.out (j := 0) rfl
    have d1 := heap_cell HX1.out (j := 0) rfl
    have d2 := heap_cell HX1.out (j := 1) rfl
    have d3 := heap_cell HX1.out (j := 2) rfl
    have d4 := heap_cell HX1.out (j := 3) rfl
    go_wp2_with fail
    clear d0 d1 d2 d3 d4
    refine HC.out.mono ?_
    rintro e w2 ⟨rfl, hb⟩
    have HN2 := hid ((hb.block (w.heap.size + 2) (by rw [HSZ.out]; omega)).trans HX2.out)
    have HB4 := hid (HB3.out.trans (hb.mono (by rw [HSZ.out]; omega)))
    clear hb
    have z0 := heap_free HN2.out 0
    have r0 := heap_cell HN2.out (j := 0) rfl
    have z1 := heap_free HN2.out 1
    have r1 := heap_cell HN2.out (j := 1) rfl
    have z2 := heap_free HN2.out 2
    have r2 := heap_cell HN2.out (j := 2) rfl
    have z3 := heap_free HN2.out 3
    have r3 := heap_cell HN2.out (j := 3) rfl
    have z4 := heap_free HN2.out 4
    have r4 := heap_cell HN2.out (j := 4) rfl
    have z5 := heap_free HN2.out 5
    have r5 := heap_cell HN2.out (j := 5) rfl
    have z6 := heap_free HN2.out 6
    have r6 := heap_cell HN2.out (j := 6) rfl
    go_wp2_with fail
    have hS := set7 HN2.out (.int .i64 0) (.int .i64 0) (.slice none 0 0) (.slice none 0 0) (.slice none 0 0) (.slice none 0 0) (.slice none 0 0)
    unfold set7W set4W at hS
    have hc0 := heap_cell hS (j := 0) rfl
    have hc1 := heap_cell hS (j := 1) rfl
    have hc2 := heap_cell hS (j := 2) rfl
    have hc3 := heap_cell hS (j := 3) rfl
    have hc4 := heap_cell hS (j := 4) rfl
    have hc5 := heap_cell hS (j := 5) rfl
    have hc6 := heap_cell hS (j := 6) rfl
    refine bodyPost_ret (v := .tuple #[.agg #[.int .i64 0, .int .i64 0, .slice none 0 0, .slice none 0 0, .slice none 0 0, .slice none 0 0, .slice none 0 0], .int .i64 1]) (by simp [results, Try.results14, go_sem, hc0, hc1, hc2, hc3, hc4, hc5, hc6]) rfl ?_
    exact GivesN.store (k := 0) (v := 0) (ds := []) (ks := []) (ad := none) (a := none) (cd := 0) (c := 0) (by omega) (own_none _ _) HB4.out _ _ _ _ _ _ _
  case true =>
    rw [hk] at hmc hdef
    have HC := hid hmc
    have HDEF := hid hdef
    rw [HDEF.out]
    have HG := hid (HGD.out hk)
    clear hmc hdef hr hrb hM hMb hB1 hB2 hB3 hx0 hx1 hx2 hsz hk
    go_enter Try.func14, Try.ntmps14
    have d0 := heap_cell HX0.out (j := 0) rfl
    have d1 := heap_cell HX1.out (j := 0) rfl
    have d2 := heap_cell HX1.out (j := 1) rfl
    have d3 := heap_cell HX1.out (j := 2) rfl
    have d4 := heap_cell HX1.out (j := 3) rfl
    go_wp2_with fail
    clear d0 d1 d2 d3 d4
    refine HC.out.mono ?_
    rintro e w2 ⟨rfl, hb⟩
    have HN2 := hid ((hb.block (w.heap.size + 2) (by rw [HSZ.out]; omega)).trans HX2.out)
    have HC2 := hid ((hb.block (w.heap.size + 1) (by rw [HSZ.out]; omega)).trans HX1.out)
    have HB4 := hid (HB3.out.trans (hb.mono (by rw [HSZ.out]; omega)))
    have HZ2 := hid (show w.heap.size + 3 ≤ w2.heap.size by have := hb.size; rw [HSZ.out] at this; exact this)
    clear hb
    have c0 := heap_cell HC2.out (j := 0) rfl
    have c1 := heap_cell HC2.out (j := 1) rfl
    have c2 := heap_cell HC2.out (j := 2) rfl
    have c3 := heap_cell HC2.out (j := 3) rfl
    have hcp := impl_copyCore k1 v1 ds1 ks1 ads1 cds1 aks1 cks1 w2 HMM.out (HR.out.below HB4.out)
    have HCP := hid hcp
    clear hcp
    go_wp2_with fail
    refine HCP.out.mono ?_
    rintro e w3 ⟨ad, cd, a, c, rfl, ho, hb⟩
    have HN3 := hid ((hb.block (w.heap.size + 2) (by have := HZ2.out; omega)).trans HN2.out)
    have HB5 := hid (HB4.out.trans (hb.mono HB4.out.size))
    have HO := hid (OwnS.mono ho HZ2.out)
    clear ho hb c0 c1 c2 c3 HCP
    have z0 := heap_free HN3.out 0
    have r0 := heap_cell HN3.out (j := 0) rfl
    have z1 := heap_free HN3.out 1
    have r1 := heap_cell HN3.out (j := 1) rfl
    have z2 := heap_free HN3.out 2
    have r2 := heap_cell HN3.out (j := 2) rfl
    have z3 := heap_free HN3.out 3
    have r3 := heap_cell HN3.out (j := 3) rfl
    have z4 := heap_free HN3.out 4
    have r4 := heap_cell HN3.out (j := 4) rfl
    have z5 := heap_free HN3.out 5
    have r5 := heap_cell HN3.out (j := 5) rfl
    have z6 := heap_free HN3.out 6
    have r6 := heap_cell HN3.out (j := 6) rfl
    go_wp2_with fail
    have hS := set7 HN3.out (.int .i64 k1) (.int .i64 v1) (.slice ad ds1.length cd) (.slice a ks1.length c) (.slice none 0 0) (.slice none 0 0) (.slice none 0 0)
    unfold set7W set4W at hS
    have hc0 := heap_cell hS (j := 0) rfl
    have hc1 := heap_cell hS (j := 1) rfl
    have hc2 := heap_cell hS (j := 2) rfl
    have hc3 := heap_cell hS (j := 3) rfl
    have hc4 := heap_cell hS (j := 4) rfl
    have hc5 := heap_cell hS (j := 5) rfl
    have hc6 := heap_cell hS (j := 6) rfl
    refine bodyPost_ret (v := .tuple #[.agg #[.int .i64 k1, .int .i64 v1, .slice ad ds1.length cd, .slice a ks1.length c, .slice none 0 0, .slice none 0 0, .slice none 0 0], .int .i64 0]) (by simp [results, Try.results14, go_sem, hc0, hc1, hc2, hc3, hc4, hc5, hc6]) rfl ?_
    exact GivesN.store (b := w.heap.size + 2) (by omega) HO.out HB5.out _ _ _ _ _ _ _
end Go.Proofs.Ytejdbmeoaekhcaa
