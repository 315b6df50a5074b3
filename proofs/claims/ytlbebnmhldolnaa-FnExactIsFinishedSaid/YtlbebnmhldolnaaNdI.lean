/- Walks: parts of closures and frames, in the program. -/
import Derived.Test.YtlbebnmhldolnaaNdPlain
import Derived.Test.YtlbebnmhldolnaaAnyIn
import Derived.Test.YtlbebnmhldolnaaAnyCo
import Derived.Test.YtlbebnmhldolnaaCoTests
import Derived.Test.YtlbebnmhldolnaaCoEraseI
import Derived.Test.YtlbebnmhldolnaaBkValidI
import Derived.Test.YtlbebnmhldolnaaSaCo
import Derived.Test.YtlbebnmhldolnaaSzNe
namespace Go.Proofs.Ytlbebnmhldolnaa
open Go.ChangeShapes Go.WideShapes Go.ChangeAt Go.RowKit Go.BigFrame
open Go.Sort (grow)
set_option linter.unusedVariables false

theorem impl_isAddress (mb mo h : Nat) (ahs : Option Addr) (chs : Nat) (a : Int) (w : World) (hh : h ≤ 1048576) (x6 : w.cell? ⟨mb, mo + 6, none⟩ = some (.slice ahs h chs)) :
    Calls Try.prog 99 #[.pointer (some ⟨mb, mo, none⟩), .int .i64 a] w fun e w' => e = .returned (.bool (upTo h a)) ∧ w = w' := by
  by_cases h1 : 0 ≤ a
  case neg =>
    have g1 : decide (0 ≤ a) = false := decide_eq_false h1
    have HF := hid (show upTo h a = false from inR_f (by omega))
    clear h1 x6
    go_enter Try.func99, Try.ntmps99
    go_wp2_with fail
    go_ret
    exact ⟨ret_bool HF.out.symm, rfl⟩
  case pos =>
  have g1 : decide (0 ≤ a) = true := decide_eq_true h1
  by_cases h2 : a < h
  case neg =>
    have g2 : decide (a < (h : Int)) = false := decide_eq_false h2
    have HF := hid (show upTo h a = false from inR_f (by omega))
    clear h1 h2
    go_enter Try.func99, Try.ntmps99
    go_wp2_with fail
    go_ret
    exact ⟨ret_bool HF.out.symm, rfl⟩
  case pos =>
    have g2 : decide (a < (h : Int)) = true := decide_eq_true h2
    have HF := hid (show upTo h a = true from inR_t (by omega) (by omega))
    clear h1 h2
    go_enter Try.func99, Try.ntmps99
    go_wp2_with fail
    go_ret
    exact ⟨ret_bool HF.out.symm, rfl⟩
def notUp (n : Int) (x : Int) : Bool := !upTo n x
theorem impl_notDef (n : Nat) (ab : Option Addr) (cb : Nat) (x : Int) (q : Addr) (w : World) (hn : n ≤ 1048576) (hq : w.cell? q = some (.slice ab n cb)) :
    Calls Try.prog 124 #[.int .i64 x, .pointer (some q)] w fun e w' => e = .returned (.bool (notUp n x)) ∧ Below w.heap.size w w' := by
  by_cases h1 : x < 0
  case pos =>
    have g1 : decide (x < 0) = true := decide_eq_true h1
    have HF := hid (show notUp n x = true by rw [notUp, show upTo n x = false from inR_f (by omega)]; rfl)
    clear h1 hq
    go_enter Try.func124, Try.ntmps124
    go_wp2_with fail
    go_ret
    exact ⟨ret_bool HF.out.symm, Below.refl _ _⟩
  case neg =>
  have g1 : decide (x < 0) = false := decide_eq_false h1
  by_cases h2 : (n : Int) ≤ x
  case pos =>
    have g2 : decide ((n : Int) ≤ x) = true := decide_eq_true h2
    have HF := hid (show notUp n x = true by rw [notUp, show upTo n x = false from inR_f (by omega)]; rfl)
    clear h1 h2
    go_enter Try.func124, Try.ntmps124
    go_wp2_with fail
    go_ret
    exact ⟨ret_bool HF.out.symm, Below.refl _ _⟩
  case neg =>
    have g2 : decide ((n : Int) ≤ x) = false := decide_eq_false h2
    have HF := hid (show notUp n x = false by rw [notUp, show upTo n x = true from inR_t (by omega) (by omega)]; rfl)
    clear h1 h2
    go_enter Try.func124, Try.ntmps124
    go_wp2_with fail
    go_ret
    exact ⟨ret_bool HF.out.symm, Below.refl _ _⟩
theorem impl_areDefs (n : Nat) (ab : Option Addr) (cb : Nat) (ds1 : List Int) (ads1 : Option Addr) (cds1 : Nat) (w : World) (hn : n ≤ 1048576) (hr : RdL w (In.ds ds1) (.slice ads1 ds1.length cds1)) :
    Calls Try.prog 104 #[.agg #[.slice ab n cb], .slice ads1 ds1.length cds1] w fun e w' => e = .returned (.bool (ds1.all (upTo n))) ∧ Below w.heap.size w w' := by
  have hB := (Below.refl w.heap.size w).alloc (Nat.le_refl _) (.cells #[.slice ab n cb] 45)
  have HX0 := hid ((Boxes.nil w).alloc #[.slice ab n cb] 45 (0, 0))
  have hc := contains_In_1 124 Try.call124 (.pointer (some ⟨w.heap.size, 0, none⟩)) (notUp n) (fun W => W.cell? ⟨w.heap.size, 0, none⟩ = some (.slice ab n cb)) (fun x y hab h => (hab.cell (p := ⟨w.heap.size, 0, none⟩) (World.block_lt_of_cell? _ _ h)).trans h) ds1 ads1 cds1 _ (HX0.out.at 0 0 rfl rfl) (hr.below hB)
    (fun x j W _ hW hrw => impl_notDef n ab cb x _ W hn hW)
  have HE := hid (any_not (upTo n) ds1)
  rw [show ds1.any (notUp n) = !ds1.all (upTo n) from HE.out] at hc
  generalize ds1.all (upTo n) = r at hc
  have HC := hid hc
  have HB := hid hB
  clear hc hr hB HX0 HE
  go_enter Try.func104, Try.ntmps104
  go_wp2_with fail
  refine HC.out.mono ?_
  rintro e w1 ⟨rfl, hb⟩
  have HB1 := hid (HB.out.trans (hb.mono HB.out.size))
  clear hb
  go_wp2_with fail
  go_ret
  exact ⟨ret_bool (by simp), HB1.out⟩
theorem rd_core0 (w : World) : RdS w (Co.d (.mk 0 0 [] [])) [.int .i64 0, .int .i64 0, .slice none (List.length ([] : List Int)) 0, .slice none (List.length ([] : List Co)) 0] :=
  ⟨_, Rd.struct_mk (RdAll.cons (Rd.int_mk (by omega) (by omega)) (RdAll.cons (Rd.int_mk (by omega) (by omega)) (RdAll.cons (Rd.nil_mk (by omega)) (RdAll.cons (Rd.nil_mk (by omega)) RdAll.nil))))⟩
theorem eqb_core0 (k v : Int) (ds : List Int) (ks : List Co) : Co.eqb (.mk k v ds ks) (.mk 0 0 [] []) = (decide (k = 0) && (decide (v = 0) && (decide (ds.length = 0) && decide (ks.length = 0)))) := by
  have h1 : decide (ds = []) = decide (ds.length = 0) := by cases ds <;> simp
  have h2 : Co.eqbs ks [] = decide (ks.length = 0) := by cases ks <;> simp [Co.eqbs]
  rw [Co.eqb, h1, h2]
theorem impl_isBlank (tk1 : Int) (tv1 : Int) (tds1 : List Int) (tks1 : List Co) (es1 : List Int) (atds1 : Option Addr) (ctds1 : Nat) (atks1 : Option Addr) (ctks1 : Nat) (aes1 : Option Addr) (ces1 : Nat) (w : World) (hr : RdS w (Cl.d (Cl.mk (Co.mk tk1 tv1 tds1 tks1) es1)) [.int .i64 tk1, .int .i64 tv1, .slice atds1 tds1.length ctds1, .slice atks1 tks1.length ctks1, .slice aes1 es1.length ces1]) :
    Calls Try.prog 101 #[.agg #[.int .i64 tk1, .int .i64 tv1, .slice atds1 tds1.length ctds1, .slice atks1 tks1.length ctks1, .slice aes1 es1.length ces1]] w fun e w' => e = .returned (.bool (clNone (Cl.mk (Co.mk tk1 tv1 tds1 tks1) es1))) ∧ Below w.heap.size w w' := by
  have HE := hid (show clNone (Cl.mk (Co.mk tk1 tv1 tds1 tks1) es1) = ((decide (tk1 = 0) && (decide (tv1 = 0) && (decide (tds1.length = 0) && decide (tks1.length = 0)))) && decide (es1.length = 0)) by simp only [clNone, Bool.and_assoc])
  have hB := (Below.refl w.heap.size w).alloc (Nat.le_refl _) (.cells #[.int .i64 tk1, .int .i64 tv1, .slice atds1 tds1.length ctds1, .slice atks1 tks1.length ctks1, .slice aes1 es1.length ces1] 37)
  have HX0 := hid ((Boxes.nil w).alloc #[.int .i64 tk1, .int .i64 tv1, .slice atds1 tds1.length ctds1, .slice atks1 tks1.length ctks1, .slice aes1 es1.length ces1] 37 (0, 0))
  have hc := impl_SameCore tk1 tv1 tds1 tks1 atds1 ctds1 atks1 ctks1 0 0 [] [] none 0 none 0 (w.alloc (.cells #[.int .i64 tk1, .int .i64 tv1, .slice atds1 tds1.length ctds1, .slice atks1 tks1.length ctks1, .slice aes1 es1.length ces1] 37)) ((RdS.subCl_t hr).below hB) (rd_core0 _)
  rw [eqb_core0] at hc
  generalize (decide (tk1 = 0) && (decide (tv1 = 0) && (decide (tds1.length = 0) && decide (tks1.length = 0)))) = r at hc HE
  have HC := hid hc
  have HB := hid hB
  have hce : decide (es1.length = 0) = ((es1.length : Int) == 0) := by by_cases hz : es1.length = 0 <;> simp [hz]
  rw [hce] at HE
  clear hc hr hB hce
  cases r
  case false =>
    go_enter Try.func101, Try.ntmps101
    go_wp2_with fail
    refine HC.out.mono ?_
    rintro e w1 ⟨rfl, hb⟩
    have HB1 := hid (HB.out.trans (hb.mono HB.out.size))
    clear hb
    go_wp2_with fail
    go_ret
    exact ⟨ret_bool (by rw [HE.out]; rfl), HB1.out⟩
  case true =>
    go_enter Try.func101, Try.ntmps101
    go_wp2_with fail
    refine HC.out.mono ?_
    rintro e w1 ⟨rfl, hb⟩
    have HB1 := hid (HB.out.trans (hb.mono HB.out.size))
    have y4 := (HX0.out.below hb).at 0 4 rfl rfl
    clear hb
    go_wp2_with fail
    go_ret
    exact ⟨ret_bool (by rw [HE.out]; rfl), HB1.out⟩
theorem impl_notAddr (mb mo h : Nat) (ahs : Option Addr) (chs : Nat) (x : Int) (q : Addr) (w : World) (hh : h ≤ 1048576) (hq : w.cell? q = some (.pointer (some ⟨mb, mo, none⟩))) (x6 : w.cell? ⟨mb, mo + 6, none⟩ = some (.slice ahs h chs)) :
    Calls Try.prog 98 #[.int .i64 x, .pointer (some q)] w fun e w' => e = .returned (.bool (notUp h x)) ∧ Below w.heap.size w w' := by
  have HC := hid (impl_isAddress mb mo h ahs chs x w hh x6)
  have HE := hid (show notUp h x = !upTo h x from rfl)
  generalize upTo h x = r at HC HE
  clear x6
  go_enter Try.func98, Try.ntmps98
  go_wp2_with fail
  refine HC.out.mono ?_
  rintro e w1 ⟨rfl, rfl⟩
  go_wp2_with fail
  go_ret
  exact ⟨ret_bool HE.out.symm, Below.refl _ _⟩
def badEra (t : Co) : Bool := !(Co.ok t && Co.era t)
theorem impl_badEra (k1 : Int) (v1 : Int) (ds1 : List Int) (ks1 : List Co) (ads1 : Option Addr) (cds1 : Nat) (aks1 : Option Addr) (cks1 : Nat) (w : World) (hM : Co.bulk (Co.mk k1 v1 ds1 ks1) ≤ 1048576) (hr : RdS w (Co.d (Co.mk k1 v1 ds1 ks1)) [.int .i64 k1, .int .i64 v1, .slice ads1 ds1.length cds1, .slice aks1 ks1.length cks1]) :
    Calls Try.prog 93 #[.agg #[.int .i64 k1, .int .i64 v1, .slice ads1 ds1.length cds1, .slice aks1 ks1.length cks1]] w fun e w' => e = .returned (.bool (badEra (Co.mk k1 v1 ds1 ks1))) ∧ Below w.heap.size w w' := by
  have hB := (Below.refl w.heap.size w).alloc (Nat.le_refl _) (.cells #[.int .i64 k1, .int .i64 v1, .slice ads1 ds1.length cds1, .slice aks1 ks1.length cks1] 35)
  have hc := impl_IsErased k1 v1 ds1 ks1 ads1 cds1 aks1 cks1 (w.alloc (.cells #[.int .i64 k1, .int .i64 v1, .slice ads1 ds1.length cds1, .slice aks1 ks1.length cks1] 35)) hM (hr.below hB)
  have HE := hid (show badEra (Co.mk k1 v1 ds1 ks1) = !(Co.ok (Co.mk k1 v1 ds1 ks1) && Co.era (Co.mk k1 v1 ds1 ks1)) from rfl)
  generalize (Co.ok (Co.mk k1 v1 ds1 ks1) && Co.era (Co.mk k1 v1 ds1 ks1)) = r at hc HE
  have HC := hid hc
  have HB := hid hB
  clear hc hr hB hM
  go_enter Try.func93, Try.ntmps93
  go_wp2_with fail
  refine HC.out.mono ?_
  rintro e w1 ⟨rfl, hb⟩
  have HB1 := hid (HB.out.trans (hb.mono HB.out.size))
  clear hb
  go_wp2_with fail
  go_ret
  exact ⟨ret_bool HE.out.symm, HB1.out⟩
theorem all_era (n : Int) : ∀ ts : List Co, defsOk n ts = true → ts.any badEra = !ts.all Co.era
  | [], _ => rfl
  | t :: ts, h => by
    simp only [defsOk, defOk, Bool.and_eq_true] at h
    rw [List.any_cons, List.all_cons, all_era n ts h.2, badEra, h.1.1.1]
    cases Co.era t <;> rfl
theorem impl_isErasedBook (fs1 : List Co) (afs1 : Option Addr) (cfs1 : Nat) (w : World) (hM : Co.bulks fs1 ≤ 1048576) (hr : RdS w (Bk.d (.mk fs1)) [.slice afs1 fs1.length cfs1]) :
    Calls Try.prog 59 #[.agg #[.slice afs1 fs1.length cfs1]] w fun e w' => e = .returned (.bool (bookEra fs1)) ∧ Below w.heap.size w w' := by
  have hB := (Below.refl w.heap.size w).alloc (Nat.le_refl _) (.cells #[.slice afs1 fs1.length cfs1] 45)
  have HX0 := hid ((Boxes.nil w).alloc #[.slice afs1 fs1.length cfs1] 45 (0, 0))
  have hc := impl_ValidBook fs1 afs1 cfs1 (w.alloc (.cells #[.slice afs1 fs1.length cfs1] 45)) hM (hr.below hB)
  have hv := fun W (hW : Below w.heap.size w W) => contains_Co_0 93 Try.call93 badEra (fun _ => True) (fun _ _ _ h => h) fs1 afs1 cfs1 W trivial (hr.fBk.below hW)
    (fun k3 v3 ds3 ks3 ads3 cds3 aks3 cks3 j V hj _ hrv => impl_badEra k3 v3 ds3 ks3 ads3 cds3 aks3 cks3 V (by have := Co.bulk_get fs1 j _ hj; omega) hrv)
  have HB := hid hB
  by_cases hk : bookOk fs1 = true
  case neg =>
    have HF := hid (show bookEra fs1 = false by simp [bookEra, hk])
    rw [(Bool.not_eq_true _).mp hk] at hc
    have HC := hid hc
    clear hc hv hr hB hM hk HX0
    go_enter Try.func59, Try.ntmps59
    go_wp2_with fail
    refine HC.out.mono ?_
    rintro e w1 ⟨rfl, hb⟩
    have HB1 := hid (HB.out.trans (hb.mono HB.out.size))
    clear hb
    go_wp2_with fail
    go_ret
    exact ⟨ret_bool HF.out.symm, HB1.out⟩
  case pos =>
    have hd : defsOk fs1.length fs1 = true := by simp only [bookOk, Bool.and_eq_true] at hk; exact hk.2
    have HF := hid (show bookEra fs1 = fs1.all Co.era by simp [bookEra, hk])
    rw [hk] at hc
    rw [all_era _ fs1 hd] at hv
    generalize fs1.all Co.era = r at hv HF
    have HC := hid hc
    have HV := hid hv
    clear hc hv hr hB hM hk hd
    go_enter Try.func59, Try.ntmps59
    go_wp2_with fail
    refine HC.out.mono ?_
    rintro e w1 ⟨rfl, hb⟩
    have HB1 := hid (HB.out.trans (hb.mono HB.out.size))
    have y0 := (HX0.out.below hb).at 0 0 rfl rfl
    clear hb
    go_wp2_with fail
    refine (HV.out _ HB1.out).mono ?_
    rintro e w2 ⟨rfl, hb⟩
    have HB2 := hid (HB1.out.trans (hb.mono HB1.out.size))
    clear hb y0
    go_wp2_with fail
    go_ret
    exact ⟨ret_bool (by rw [HF.out]), HB2.out⟩
end Go.Proofs.Ytlbebnmhldolnaa
