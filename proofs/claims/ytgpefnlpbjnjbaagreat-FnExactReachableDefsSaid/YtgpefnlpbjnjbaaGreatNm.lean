/- Walks: the names that a node binds, and lists of names wherever they lie. -/
import Derived.Test.YtgpefnlpbjnjbaaGreatUsesP
import Derived.Test.YtgpefnlpbjnjbaaGreatTmSmall
import Derived.Test.YtgpefnlpbjnjbaaGreatKeep
namespace Go.Proofs.YtgpefnlpbjnjbaaGreat
open Go.ChangeShapes Go.WideShapes Go.ChangeAt Go.RowKit Go.BigFrame
open Go.Sort (grow)
set_option linter.unusedVariables false

/-- A list of names lies in a slice. -/
def StrsL (w : World) (ns : List ByteArray) (v : Value) : Prop := ∃ (a : Option Addr) (c : Nat), v = .slice a ns.length c ∧ ns.length ≤ c ∧ c ≤ 9223372036854775807 ∧ (0 < ns.length → ∃ b o, a = some ⟨b, o, none⟩ ∧ b < w.heap.size ∧ ∀ (i : Nat) (s : ByteArray), ns[i]? = some s → w.cell? ⟨b, o + i, none⟩ = some (.string s))
theorem StrsL.of_rd {w : World} {ns : List ByteArray} {v : Value} (h : RdL w (Sr.ds ns) v) : StrsL w ns v := by
  obtain ⟨a, c, e, h2, h3, h4⟩ := h.eSr
  refine ⟨a, c, e, h2, h3, fun hp => ?_⟩
  obtain ⟨b, o, e, hl, hc⟩ := h4 hp
  exact ⟨b, o, e, hl, fun i s hi => (hc i s hi).1⟩
theorem StrsL.below {w w' : World} {ns : List ByteArray} {v : Value} (h : StrsL w ns v) (hb : Below w.heap.size w w') : StrsL w' ns v := by
  obtain ⟨a, c, e, h2, h3, h4⟩ := h
  refine ⟨a, c, e, h2, h3, fun hp => ?_⟩
  obtain ⟨b, o, e, hl, hc⟩ := h4 hp
  exact ⟨b, o, e, Nat.lt_of_lt_of_le hl hb.size, fun i s hi => (hb.cell (p := ⟨b, o + i, none⟩) hl).trans (hc i s hi)⟩
theorem StrsL.nil (w : World) : StrsL w [] (.slice none 0 0) := ⟨none, 0, rfl, by simp, by omega, fun h => by simp at h⟩
theorem StrsL.one (w : World) (s : ByteArray) (t : TypeId) : StrsL (w.alloc (.cells #[.string s] t)) [s] (.slice (some ⟨w.heap.size, 0, none⟩) 1 1) :=
  ⟨_, 1, rfl, by simp, by omega, fun _ => ⟨w.heap.size, 0, rfl, by simp, fun i u hi => by
    match i, hi with
    | 0, hi => simp at hi; subst hi; exact one_new w (.string s) t 0 _ rfl
    | i + 1, hi => simp at hi⟩⟩
theorem idx_L (ns : List ByteArray) (v : Value) (s : ByteArray) (w : World) (h : StrsL w ns v) :
    Calls Tryz.prog 162 #[v, .string s] w fun e w' => e = .returned (.int .i64 (idxFrom s 0 ns)) ∧ w = w' := by
  obtain ⟨a, c, rfl, h2, h3, h4⟩ := h
  have hlen : ns.length ≤ 9223372036854775807 := Nat.le_trans h2 h3
  have H4 := hid h4
  clear h4
  go_enter Tryz.func162, Tryz.ntmps162
  go_wp2_with fail
  go_loopw [5, 8] (fun u i wr => ∃ k : Nat, k ≤ ns.length ∧ i = .int .i64 k ∧ Hid (∀ (j : Nat) t, j < k → ns[j]? = some t → t ≠ s) ∧ w = wr) (fun _ i _ => ns.length - (intOf i).toNat)
  case atStart => exact ⟨0, Nat.zero_le _, rfl, fun j t hj => absurd hj (by omega), rfl⟩
  case round =>
    obtain ⟨k, hk, rfl, HN, rfl⟩ := hrel
    by_cases hlt : k < ns.length
    · obtain ⟨b, o, rfl, hbl, hall⟩ := H4.out (by omega)
      obtain ⟨t, ht⟩ : ∃ t, ns[k]? = some t := ⟨_, List.getElem?_eq_getElem hlt⟩
      have hc := hall k t ht
      have HT := hid ht
      clear ht hall H4
      by_cases he : s = t
      · have hb := bytes_eq he
        have HE := hid he
        clear he
        go_wp2_with fail
        go_ret
        refine ⟨ret_int ?_, rfl⟩
        rw [idxFrom_at s 0 k ns HN.out (by rw [HT.out, HE.out])]
        simp
      · have hb := bytes_ne he
        have HE := hid he
        clear he
        go_wp2_with fail
        go_roundw
        case rel =>
          refine ⟨k + 1, by omega, by go_num, fun j u hj hu => ?_, by first | rfl | trivial⟩
          rcases Nat.lt_succ_iff_lt_or_eq.1 hj with hj' | rfl
          · exact HN.out j u hj' hu
          · have e : u = t := Option.some.inj (hu.symm.trans HT.out)
            subst e
            exact fun e => HE.out e.symm
        case measure => simp [intOf]; omega
    · go_wp2_with fail
      go_ret
      refine ⟨ret_int ?_, rfl⟩
      rw [idxFrom_none s 0 ns fun j t hj => HN.out j t (by have := (List.getElem?_eq_some_iff.1 hj).1; omega) hj]
theorem has_L (ns : List ByteArray) (v : Value) (s : ByteArray) (w : World) (h : StrsL w ns v) :
    Calls Tryz.prog 135 #[v, .string s] w fun e w' => e = .returned (.bool (hasStr ns s)) ∧ w = w' := by
  have HC := hid (idx_L ns v s w h)
  obtain ⟨a, c, rfl, -⟩ := h
  have HR := hid (show hasStr ns s = decide (0 ≤ idxFrom s 0 ns) from rfl)
  generalize idxFrom s 0 ns = r at HC HR
  generalize hasStr ns s = bb at HR ⊢
  go_enter Tryz.func135, Tryz.ntmps135
  go_wp2_with fail
  refine HC.out.mono ?_
  rintro e w1 ⟨rfl, rfl⟩
  go_wp2_with fail
  go_ret
  exact ⟨ret_bool HR.out.symm, rfl⟩
theorem last_L (ns : List ByteArray) (v : Value) (s : ByteArray) (w : World) (h : StrsL w ns v) :
    Calls Tryz.prog 84 #[v, .string s] w fun e w' => e = .returned (.int .i64 (lastAt s ns)) ∧ w = w' := by
  obtain ⟨a, c, rfl, h2, h3, h4⟩ := h
  have hlen : ns.length ≤ 9223372036854775807 := Nat.le_trans h2 h3
  have H4 := hid h4
  clear h4 h2 h3
  go_enter Tryz.func84, Tryz.ntmps84
  go_wp2_with fail
  go_loopw [5] (fun i wr => ∃ (j : Nat) (x : Int), j ≤ ns.length ∧ x = (j : Int) - 1 ∧ i = .int .i64 x ∧ Hid (∀ (i : Nat) t, j ≤ i → ns[i]? = some t → t ≠ s) ∧ w = wr) (fun i _ => (intOf i + 1).toNat)
  case atStart => exact ⟨ns.length, (ns.length : Int) - 1, by omega, rfl, by go_num, fun i t hi hti => absurd (List.getElem?_eq_some_iff.1 hti).1 (by omega), rfl⟩
  case round =>
    obtain ⟨j, x, hj, hx, rfl, HJ, rfl⟩ := hrel
    rcases j with _ | m
    · obtain rfl : x = -1 := by simpa using hx
      clear hx
      go_wp2_with fail
      go_ret
      exact ⟨ret_int (by rw [lastAt_no s ns fun i t hti => HJ.out i t (by omega) hti]), rfl⟩
    · obtain rfl : x = (m : Int) := by omega
      clear hx
      have hlt : m < ns.length := by omega
      obtain ⟨b, o, rfl, hbl, hall⟩ := H4.out (by omega)
      obtain ⟨t, ht⟩ : ∃ t, ns[m]? = some t := ⟨_, List.getElem?_eq_getElem hlt⟩
      have c0 := hall m t ht
      clear hall H4
      have HT := hid ht
      by_cases hq : t = s
      · have hb := bytes_eq hq
        have HQ := hid hq
        clear hq ht
        go_wp2_with fail
        go_ret
        exact ⟨ret_int (by rw [lastAt_yes s ns m (by rw [HT.out, HQ.out]) fun i t hi hti => HJ.out i t hi hti]), rfl⟩
      · have hb := bytes_ne hq
        have HQ := hid hq
        clear hq ht
        go_wp2_with fail
        go_roundw
        case rel => exact ⟨m, (m : Int) - 1, by omega, rfl, by go_num, fun i t hi hti => (Nat.eq_or_lt_of_le hi).elim (fun he => by subst he; obtain rfl := Option.some.inj (hti.symm.trans HT.out); exact HQ.out) (fun hi => HJ.out i t hi hti), by first | rfl | trivial⟩
        case measure => simp [intOf]
theorem spec_binds (k1 : Int) (n1 : ByteArray) (ns1 : List ByteArray) (ans1 : Option Addr) (cns1 : Nat) (b1 o1 : Nat) (i : Nat) (w : World) (x0 : w.cell? ⟨b1, o1, none⟩ = some (.int .i64 k1)) (x2 : w.cell? ⟨b1, o1 + 2, none⟩ = some (.string n1)) (x6 : w.cell? ⟨b1, o1 + 6, none⟩ = some (.slice ans1 ns1.length cns1)) (hr : RdL w (Sr.ds ns1) (.slice ans1 ns1.length cns1)) :
    Calls Tryz.prog 86 #[.pointer (some ⟨b1, o1, none⟩), .int .i64 i] w fun e w' => ∃ v, e = .returned v ∧ StrsL w' (boundOf k1 n1 ns1 i) v ∧ Below w.heap.size w w' := by
  have HR := hid (StrsL.of_rd hr)
  clear hr
  by_cases h4 : k1 = 4
  case pos =>
    have g4 : (k1 == 4) = true := by simp [h4]
    have HQ := hid (show boundOf k1 n1 ns1 i = [n1] by rw [boundOf, if_pos h4])
    clear h4
    go_enter Tryz.func86, Tryz.ntmps86
    go_wp2_with fail
    go_ret
    exact ⟨_, rfl, by rw [HQ.out]; exact StrsL.one _ _ _, (Below.refl _ _).alloc (by exact Nat.le_refl _) _⟩
  case neg =>
  have g4 : (k1 == 4) = false := by simp [h4]
  by_cases h7 : k1 = 7
  case pos =>
    have g7 : (k1 == 7) = true := by simp [h7]
    have g10 : (k1 == 10) = false := by simp [h7]
    by_cases hi : i = 1
    case pos =>
      have gi : ((i : Int) == 1) = true := by simp [hi]
      have HQ := hid (show boundOf k1 n1 ns1 i = [n1] by rw [boundOf, if_neg h4, if_pos h7, if_pos hi])
      clear h4 h7 hi
      go_enter Tryz.func86, Tryz.ntmps86
      go_wp2_with fail
      go_ret
      exact ⟨_, rfl, by rw [HQ.out]; exact StrsL.one _ _ _, (Below.refl _ _).alloc (by exact Nat.le_refl _) _⟩
    case neg =>
      have gi : ((i : Int) == 1) = false := by simp; omega
      have HQ := hid (show boundOf k1 n1 ns1 i = [] by rw [boundOf, if_neg h4, if_pos h7, if_neg hi])
      clear h4 h7 hi
      go_enter Tryz.func86, Tryz.ntmps86
      go_wp2_with fail
      go_ret
      exact ⟨_, rfl, by rw [HQ.out]; exact StrsL.nil _, Below.refl _ _⟩
  case neg =>
  have g7 : (k1 == 7) = false := by simp [h7]
  by_cases h10 : k1 = 10
  case pos =>
    have g10 : (k1 == 10) = true := by simp [h10]
    have HQ := hid (show boundOf k1 n1 ns1 i = ns1 by rw [boundOf, if_neg h4, if_neg h7, if_pos h10])
    clear h4 h7 h10
    go_enter Tryz.func86, Tryz.ntmps86
    go_wp2_with fail
    go_ret
    exact ⟨_, rfl, by rw [HQ.out]; exact HR.out, Below.refl _ _⟩
  case neg =>
    have g10 : (k1 == 10) = false := by simp [h10]
    have HQ := hid (show boundOf k1 n1 ns1 i = [] by rw [boundOf, if_neg h4, if_neg h7, if_neg h10])
    clear h4 h7 h10
    go_enter Tryz.func86, Tryz.ntmps86
    go_wp2_with fail
    go_ret
    exact ⟨_, rfl, by rw [HQ.out]; exact StrsL.nil _, Below.refl _ _⟩
theorem impl_bound (k1 : Int) (u1 : Int) (n1 : ByteArray) (tk1 : Int) (tn1 : ByteArray) (tks1 : List Ty) (ns1 : List ByteArray) (ks1 : List Tm) (atks1 : Option Addr) (ctks1 : Nat) (ans1 : Option Addr) (cns1 : Nat) (aks1 : Option Addr) (cks1 : Nat) (i : Nat) (w : World) (hr : RdL w (Sr.ds ns1) (.slice ans1 ns1.length cns1)) :
    Calls Tryz.prog 137 #[.agg #[.int .i64 k1, .int .i64 u1, .string n1, .int .i64 tk1, .string tn1, .slice atks1 tks1.length ctks1, .slice ans1 ns1.length cns1, .slice aks1 ks1.length cks1], .int .i64 i] w fun e w' => ∃ v, e = .returned v ∧ StrsL w' (boundOf k1 n1 ns1 i) v ∧ Below w.heap.size w w' := by
  have HB0 := hid ((Below.refl w.heap.size w).alloc (Nat.le_refl _) (.cells #[.int .i64 k1, .int .i64 u1, .string n1, .int .i64 tk1, .string tn1, .slice atks1 tks1.length ctks1, .slice ans1 ns1.length cns1, .slice aks1 ks1.length cks1] 63))
  have HR := hid (StrsL.of_rd hr)
  clear hr
  by_cases h4 : k1 = 4
  case pos =>
    have g4 : (k1 == 4) = true := by simp [h4]
    have HQ := hid (show boundOf k1 n1 ns1 i = [n1] by rw [boundOf, if_pos h4])
    clear h4
    go_enter Tryz.func137, Tryz.ntmps137
    go_wp2_with fail
    go_ret
    exact ⟨_, rfl, by rw [HQ.out]; have h := StrsL.one (w.alloc (.cells #[.int .i64 k1, .int .i64 u1, .string n1, .int .i64 tk1, .string tn1, .slice atks1 tks1.length ctks1, .slice ans1 ns1.length cns1, .slice aks1 ks1.length cks1] 63)) n1 9; rw [World.size_alloc] at h; exact h, (HB0.out).alloc (by simp) _⟩
  case neg =>
  have g4 : (k1 == 4) = false := by simp [h4]
  by_cases h7 : k1 = 7
  case pos =>
    have g7 : (k1 == 7) = true := by simp [h7]
    have g10 : (k1 == 10) = false := by simp [h7]
    by_cases hi : i = 1
    case pos =>
      have gi : ((i : Int) == 1) = true := by simp [hi]
      have HQ := hid (show boundOf k1 n1 ns1 i = [n1] by rw [boundOf, if_neg h4, if_pos h7, if_pos hi])
      clear h4 h7 hi
      go_enter Tryz.func137, Tryz.ntmps137
      go_wp2_with fail
      go_ret
      exact ⟨_, rfl, by rw [HQ.out]; have h := StrsL.one (w.alloc (.cells #[.int .i64 k1, .int .i64 u1, .string n1, .int .i64 tk1, .string tn1, .slice atks1 tks1.length ctks1, .slice ans1 ns1.length cns1, .slice aks1 ks1.length cks1] 63)) n1 9; rw [World.size_alloc] at h; exact h, (HB0.out).alloc (by simp) _⟩
    case neg =>
      have gi : ((i : Int) == 1) = false := by simp; omega
      have HQ := hid (show boundOf k1 n1 ns1 i = [] by rw [boundOf, if_neg h4, if_pos h7, if_neg hi])
      clear h4 h7 hi
      go_enter Tryz.func137, Tryz.ntmps137
      go_wp2_with fail
      go_ret
      exact ⟨_, rfl, by rw [HQ.out]; exact StrsL.nil _, HB0.out⟩
  case neg =>
  have g7 : (k1 == 7) = false := by simp [h7]
  by_cases h10 : k1 = 10
  case pos =>
    have g10 : (k1 == 10) = true := by simp [h10]
    have HQ := hid (show boundOf k1 n1 ns1 i = ns1 by rw [boundOf, if_neg h4, if_neg h7, if_pos h10])
    clear h4 h7 h10
    go_enter Tryz.func137, Tryz.ntmps137
    go_wp2_with fail
    go_ret
    exact ⟨_, rfl, by rw [HQ.out]; exact HR.out.below HB0.out, HB0.out⟩
  case neg =>
    have g10 : (k1 == 10) = false := by simp [h10]
    have HQ := hid (show boundOf k1 n1 ns1 i = [] by rw [boundOf, if_neg h4, if_neg h7, if_neg h10])
    clear h4 h7 h10
    go_enter Tryz.func137, Tryz.ntmps137
    go_wp2_with fail
    go_ret
    exact ⟨_, rfl, by rw [HQ.out]; exact StrsL.nil _, HB0.out⟩
end Go.Proofs.YtgpefnlpbjnjbaaGreat
