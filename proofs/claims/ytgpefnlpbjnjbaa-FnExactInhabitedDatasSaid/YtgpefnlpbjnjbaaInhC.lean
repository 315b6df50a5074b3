/- Walks: whether a constructor is inhabited, in both. No condition. -/
import Derived.Test.YtgpefnlpbjnjbaaInhT
import Derived.Test.YtgpefnlpbjnjbaaAnyTy2
import Derived.Test.YtgpefnlpbjnjbaaAnyCon2
namespace Go.Proofs.Ytgpefnlpbjnjbaa
open Go.ChangeShapes Go.WideShapes Go.ChangeAt Go.RowKit
open Go.Sort (grow)
set_option linter.unusedVariables false

theorem any_yes' {α : Type} {p : α → Bool} {l : List α} {j : Nat} {t : α} (h : l[j]? = some t) (hp : p t = true) : l.any p = true := List.any_eq_true.2 ⟨t, List.mem_of_getElem? h, hp⟩
theorem any_no' {α : Type} {p : α → Bool} {l : List α} (h : ∀ (j : Nat) t, l[j]? = some t → p t = false) : l.any p = false := by
  rw [List.any_eq_false]
  intro x hx
  obtain ⟨j, hj⟩ := List.mem_iff_getElem?.1 hx
  simp [h j x hj]
set_option maxRecDepth 100000 in
theorem spec_livesBy (ts : List Dat) (a : Option Addr) (c : Nat) (lv : List Bool) (vl : Value) (hlen : lv.length = ts.length) (n1 : ByteArray) (fs1 : List Ty) (afs1 : Option Addr) (cfs1 : Nat) (w : World) (hf : fieldsOk ts fs1 = true) (hd : RdL w (Dat.ds ts) (.slice a ts.length c)) (hl : BoolsL w lv vl) (hr : RdS w (Con.d (Con.mk n1 fs1)) [.string n1, .slice afs1 fs1.length cfs1]) :
    Calls Try.prog 60 #[.slice a ts.length c, vl, .agg #[.string n1, .slice afs1 fs1.length cfs1]] w fun e w' => e = .returned (.bool (conLives ts lv (Con.mk n1 fs1))) ∧ Below w.heap.size w w' := by
  have hB := (Below.refl w.heap.size w).alloc (Nat.le_refl _) (.cells #[.string n1, .slice afs1 fs1.length cfs1] 104)
  have hx := heap_alloc_new w (.cells #[.string n1, .slice afs1 fs1.length cfs1] 104)
  have HX := hid hx
  have HB := hid hB
  obtain ⟨_, _, e, h2, h3, h4⟩ := hr.fCon.2.eTy
  simp only [Value.slice.injEq, true_and] at e
  obtain ⟨rfl, rfl⟩ := e
  have hlen' : fs1.length ≤ 9223372036854775807 := Nat.le_trans h2 h3
  have H4 := hid h4
  have HF := hid hf
  have HD := hid hd
  have HL := hid hl
  have HLEN := hid hlen
  obtain ⟨ab, cb, rfl, -⟩ := hl
  have e0 := heap_cell hx (j := 0) rfl
  have e1 := heap_cell hx (j := 1) rfl
  clear hx hB h2 h3 h4 hf hd hlen hr
  go_enter Try.func60, Try.ntmps60
  go_wp2_with fail
  go_loopw [7] (fun i wr => ∃ (j : Nat), j ≤ fs1.length ∧ i = .int .i64 j ∧ Hid (∀ (i : Nat) t, i < j → fs1[i]? = some t → fieldDead ts lv t = false) ∧ Hid (Below (w.alloc (.cells #[.string n1, .slice afs1 fs1.length cfs1] 104)).heap.size (w.alloc (.cells #[.string n1, .slice afs1 fs1.length cfs1] 104)) wr)) (fun i _ => fs1.length - (intOf i).toNat)
  case atStart => exact ⟨0, by omega, rfl, fun i t hi => absurd hi (by omega), Below.refl _ _⟩
  case round =>
    obtain ⟨j, hj, rfl, HJ, HBW⟩ := hrel
    have hk := (HBW.out.block _ (Array.getElem?_eq_some_iff.1 HX.out).1).trans HX.out
    have b0 := heap_cell hk (j := 0) rfl
    have b1 := heap_cell hk (j := 1) rfl
    have hbw := HB.out.trans (HBW.out.mono HB.out.size)
    have HBB := hid hbw
    clear hk hbw
    by_cases hlt : j < fs1.length
    case neg =>
      have HE := hid (show conLives ts lv (Con.mk n1 fs1) = true by rw [conLives, fieldsLive, any_no' (fun i t h => HJ.out i t (by have := (List.getElem?_eq_some_iff.1 h).1; omega) h)]; rfl)
      go_wp2_with fail
      go_ret
      exact ⟨ret_bool HE.out.symm, HBB.out⟩
    case pos =>
      obtain ⟨b, o, rfl, hbl, hall⟩ := H4.out (by omega)
      obtain ⟨t, ht⟩ : ∃ t, fs1[j]? = some t := ⟨_, List.getElem?_eq_getElem hlt⟩
      obtain ⟨k3, n3, ks3⟩ := t
      obtain ⟨aks3, cks3, q0, q1, q2, hrk⟩ := hall j k3 n3 ks3 ht
      have d0 := (HBB.out.cell (p := ⟨b, o + j * 3, none⟩) hbl).trans q0
      have d1 := (HBB.out.cell (p := ⟨b, o + j * 3 + 1, none⟩) hbl).trans q1
      have d2 := (HBB.out.cell (p := ⟨b, o + j * 3 + 2, none⟩) hbl).trans q2
      have hc := spec_lives ts a c lv (.slice ab lv.length cb) HLEN.out k3 n3 ks3 aks3 cks3 wr (fieldsOk_get ts fs1 j _ HF.out ht) (HD.out.below HBB.out) (HL.out.below HBB.out) (hrk.below HBB.out)
      have HT := hid ht
      have HFD := hid (show fieldDead ts lv (Ty.mk k3 n3 ks3) = !Ty.lives ts lv (Ty.mk k3 n3 ks3) from rfl)
      clear hall H4 q0 q1 q2 hrk ht
      cases hq : Ty.lives ts lv (Ty.mk k3 n3 ks3)
      case false =>
        rw [hq] at hc HFD
        have HC := hid hc
        have HE := hid (show conLives ts lv (Con.mk n1 fs1) = false by rw [conLives, fieldsLive, any_yes' HT.out HFD.out]; rfl)
        clear hc hq
        go_wp2_with fail
        refine HC.out.mono ?_
        rintro e w1 ⟨rfl, hb⟩
        have HB1 := hid (HBB.out.trans (hb.mono HBB.out.size))
        clear hb b0 b1 d0 d1 d2
        go_wp2_with fail
        go_ret
        exact ⟨ret_bool HE.out.symm, HB1.out⟩
      case true =>
        rw [hq] at hc HFD
        have HC := hid hc
        clear hc hq
        go_wp2_with fail
        refine HC.out.mono ?_
        rintro e w1 ⟨rfl, hb⟩
        have HB1 := hid (HBW.out.trans (hb.mono HBW.out.size))
        clear hb b0 b1 d0 d1 d2
        go_wp2_with fail
        go_roundw
        case rel =>
          refine ⟨j + 1, by omega, by go_num, hid fun i t hi h => ?_, HB1⟩
          rcases Nat.lt_succ_iff_lt_or_eq.1 hi with hi | rfl
          · exact HJ.out i t hi h
          · obtain rfl := Option.some.inj (h.symm.trans HT.out)
            exact HFD.out
        case measure => simp [intOf]; omega
/-- What the closures read. -/
def InhG (ts : List Dat) (a : Option Addr) (c : Nat) (lv : List Bool) (qd qk : Addr) (g n : Nat) (W : World) : Prop := W.cell? qd = some (.slice a ts.length c) ∧ W.cell? qk = some (.slice (some ⟨g, 0, none⟩) n n) ∧ RdL W (Dat.ds ts) (.slice a ts.length c) ∧ LiveAt g lv W
theorem InhG.below {ts : List Dat} {a : Option Addr} {c : Nat} {lv : List Bool} {qd qk : Addr} {g n : Nat} {w w' : World} (h : InhG ts a c lv qd qk g n w) (hb : Below w.heap.size w w') : InhG ts a c lv qd qk g n w' :=
  ⟨(hb.cell (p := qd) (World.block_lt_of_cell? _ _ h.1)).trans h.1, (hb.cell (p := qk) (World.block_lt_of_cell? _ _ h.2.1)).trans h.2.1, h.2.2.1.below hb, h.2.2.2.below hb⟩
theorem impl_dead (ts : List Dat) (a : Option Addr) (c : Nat) (lv : List Bool) (qd qk : Addr) (g n : Nat) (hn : lv.length = n) (hs : n ≤ 1048576) (hlen : lv.length = ts.length) (k1 : Int) (n1 : ByteArray) (ks1 : List Ty) (aks1 : Option Addr) (cks1 : Nat) (w : World) (hf : fieldFit ts (Ty.mk k1 n1 ks1)) (hg : InhG ts a c lv qd qk g n w) (hr : RdS w (Ty.d (Ty.mk k1 n1 ks1)) [.int .i64 k1, .string n1, .slice aks1 ks1.length cks1]) :
    Calls Try.prog 66 #[.agg #[.int .i64 k1, .string n1, .slice aks1 ks1.length cks1], .pointer (some qd), .pointer (some qk)] w fun e w' => e = .returned (.bool (fieldDead ts lv (Ty.mk k1 n1 ks1))) ∧ Below w.heap.size w w' := by
  have hB := (Below.refl w.heap.size w).alloc (Nat.le_refl _) (.cells #[.int .i64 k1, .string n1, .slice aks1 ks1.length cks1] 28)
  have hg2 := hg.below hB
  have HC := hid (impl_lives ts a c lv _ hlen k1 n1 ks1 aks1 cks1 _ hf hg2.2.2.1 (hg2.2.2.2.bools hn hs) (hr.below hB))
  have z0 := hg2.1
  have z1 := hg2.2.1
  have HB := hid hB
  have HF := hid (show fieldDead ts lv (Ty.mk k1 n1 ks1) = !Ty.lives ts lv (Ty.mk k1 n1 ks1) from rfl)
  clear hB hr hg hg2 hf hn hlen
  go_enter Try.func66, Try.ntmps66
  go_wp2_with fail
  refine HC.out.mono ?_
  rintro e w1 ⟨rfl, hb⟩
  have HB1 := hid (HB.out.trans (hb.mono HB.out.size))
  clear hb
  go_wp2_with fail
  go_ret
  exact ⟨ret_bool HF.out.symm, HB1.out⟩
theorem impl_conLives (ts : List Dat) (a : Option Addr) (c : Nat) (lv : List Bool) (qd qk : Addr) (g n : Nat) (hn : lv.length = n) (hs : n ≤ 1048576) (hlen : lv.length = ts.length) (n1 : ByteArray) (fs1 : List Ty) (afs1 : Option Addr) (cfs1 : Nat) (w : World) (hf : fieldsOk ts fs1 = true) (hg : InhG ts a c lv qd qk g n w) (hr : RdS w (Con.d (Con.mk n1 fs1)) [.string n1, .slice afs1 fs1.length cfs1]) :
    Calls Try.prog 64 #[.agg #[.string n1, .slice afs1 fs1.length cfs1], .pointer (some qd), .pointer (some qk)] w fun e w' => e = .returned (.bool (conLives ts lv (Con.mk n1 fs1))) ∧ Below w.heap.size w w' := by
  have hB := (Below.refl w.heap.size w).alloc (Nat.le_refl _) (.cells #[.string n1, .slice afs1 fs1.length cfs1] 104)
  have hx := heap_alloc_new w (.cells #[.string n1, .slice afs1 fs1.length cfs1] 104)
  have e0 := heap_cell hx (j := 0) rfl
  have e1 := heap_cell hx (j := 1) rfl
  have HC := hid (contains_Ty_2 66 Try.call66 (.pointer (some qd)) (.pointer (some qk)) (fieldDead ts lv) (InhG ts a c lv qd qk g n) (fun x y hab h => h.below hab) fs1 afs1 cfs1 _ (hg.below hB) (hr.fCon.2.below hB) (fun k3 n3 ks3 aks3 cks3 j W hj hG hR => impl_dead ts a c lv qd qk g n hn hs hlen k3 n3 ks3 aks3 cks3 W (fieldsOk_get ts fs1 j _ hf hj) hG hR))
  have HF := hid (show conLives ts lv (Con.mk n1 fs1) = !fs1.any (fieldDead ts lv) from rfl)
  generalize fs1.any (fieldDead ts lv) = r at HC HF
  have HB := hid hB
  clear hB hx hr hg hf hn hlen
  go_enter Try.func64, Try.ntmps64
  go_wp2_with fail
  refine HC.out.mono ?_
  rintro e w1 ⟨rfl, hb⟩
  have HB1 := hid (HB.out.trans (hb.mono HB.out.size))
  clear hb
  go_wp2_with fail
  go_ret
  exact ⟨ret_bool HF.out.symm, HB1.out⟩
end Go.Proofs.Ytgpefnlpbjnjbaa
