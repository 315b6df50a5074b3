/- Walks: whether a type is valid, and its size, in the reference. -/
import Derived.Test.YtikhofcjkcbpbaaGreatDoorTyNodes
namespace Go.Proofs.YtikhofcjkcbpbaaGreatDoor
open Go.ChangeShapes Go.WideShapes Go.ChangeAt Go.RowKit
set_option linter.unusedVariables false

theorem nodes_in (t : Ty) : inR (Ty.nodes t 6) 1 16 = Ty.ok t := by
  have := Ty.cnt_pos t
  unfold Ty.nodes inR Ty.ok
  by_cases h1 : Ty.good t = true <;> by_cases h2 : Ty.dep t ≤ 6 <;> by_cases h3 : Ty.cnt t ≤ 16 <;> simp [h1, h2, h3] <;> omega
theorem nodes_ok {t : Ty} (h : Ty.ok t = true) : Ty.nodes t 6 = Ty.cnt t := by
  simp only [Ty.ok, Bool.and_eq_true, decide_eq_true_eq] at h
  exact Ty.nodes_yes h.1 (by omega)
theorem spec_ValidType (k : Int) (n : ByteArray) (ks : List Ty) (aks : Option Addr) (cks : Nat) (w : World) (hM : Ty.bulk (.mk k n ks) ≤ 1048576) (hr : RdS w (Ty.d (.mk k n ks)) [.int .i64 k, .string n, .slice aks ks.length cks]) :
    Calls Tryz.prog 60 #[.agg #[.int .i64 k, .string n, .slice aks ks.length cks]] w fun e w' => e = .returned (.bool (Ty.ok (.mk k n ks))) ∧ Below w.heap.size w w' := by
  have hc := fun W hW => spec_l02Nodes k n ks aks cks 6 W hM (by omega) (by omega) (hr.below hW)
  have hB := (Below.refl w.heap.size w).alloc (Nat.le_refl _) (.cells #[.int .i64 k, .string n, .slice aks ks.length cks] 33)
  have HO := hid (nodes_in (.mk k n ks))
  have HC := hid hc
  have HB := hid hB
  clear hc hr hB
  go_enter Tryz.func60, Tryz.ntmps60
  go_wp2_with fail
  refine (HC.out _ HB.out).mono ?_
  rintro e w1 ⟨rfl, hb⟩
  have HB1 := hid (HB.out.trans (hb.mono HB.out.size))
  clear hb
  go_wp2_with fail
  refine (spec_In _ _ _ _).mono ?_
  rw [HO.out]
  rintro e w2 ⟨rfl, rfl⟩
  go_wp2_with fail
  go_ret
  exact ⟨rfl, HB1.out⟩
end Go.Proofs.YtikhofcjkcbpbaaGreatDoor
