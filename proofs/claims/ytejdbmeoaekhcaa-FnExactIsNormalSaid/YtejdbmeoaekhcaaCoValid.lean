/- Walks: whether a core is valid, and its size, in the reference. -/
import Derived.Test.YtejdbmeoaekhcaaCoNodes
namespace Go.Proofs.Ytejdbmeoaekhcaa
open Go.ChangeShapes Go.WideShapes Go.ChangeAt Go.RowKit
set_option linter.unusedVariables false

theorem spec_l06Ok (k1 : Int) (v1 : Int) (ds1 : List Int) (ks1 : List Co) (ads1 : Option Addr) (cds1 : Nat) (aks1 : Option Addr) (cks1 : Nat) (b1 o1 : Nat) (w : World) (hM : Co.bulk (Co.mk k1 v1 ds1 ks1) ≤ 1048576)
    (x0 : w.cell? ⟨b1, o1, none⟩ = some (.int .i64 k1)) (x1 : w.cell? ⟨b1, o1 + 1, none⟩ = some (.int .i64 v1)) (x2 : w.cell? ⟨b1, o1 + 2, none⟩ = some (.slice ads1 ds1.length cds1)) (x3 : w.cell? ⟨b1, o1 + 3, none⟩ = some (.slice aks1 ks1.length cks1))
    (hr : RdS w (Co.d (Co.mk k1 v1 ds1 ks1)) [.int .i64 k1, .int .i64 v1, .slice ads1 ds1.length cds1, .slice aks1 ks1.length cks1]) :
    Calls Try.prog 62 #[.pointer (some ⟨b1, o1, none⟩)] w fun e w' => e = .returned (.bool (Co.ok (Co.mk k1 v1 ds1 ks1))) ∧ Below w.heap.size w w' := by
  have hc := spec_l06Nodes k1 v1 ds1 ks1 ads1 cds1 aks1 cks1 b1 o1 80 400 w hM (by omega) (by omega) (by omega) (by omega) x0 x1 x2 x3 hr
  have HO := hid (Co.nodes_ok (Co.mk k1 v1 ds1 ks1))
  generalize Co.nodes (Co.mk k1 v1 ds1 ks1) 80 400 = n at hc HO
  have HC := hid hc
  clear hc hr x0 x1 x2 x3
  go_enter Try.func62, Try.ntmps62
  go_wp2_with fail
  refine HC.out.mono ?_
  rintro e w1 ⟨rfl, hb⟩
  go_wp2_with fail
  go_ret
  exact ⟨ret_bool HO.out, hb⟩

def coSize (t : Co) : Int := if Co.ok t then (Co.cnt t : Int) else 0
end Go.Proofs.Ytejdbmeoaekhcaa
