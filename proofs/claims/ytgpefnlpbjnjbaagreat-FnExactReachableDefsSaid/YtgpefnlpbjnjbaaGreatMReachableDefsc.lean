/- Walks: CheckNames in the program. No condition. -/
import Derived.Test.YtgpefnlpbjnjbaaGreatUsesP
import Derived.Test.YtgpefnlpbjnjbaaGreatDatOkI
import Derived.Test.YtgpefnlpbjnjbaaGreatPgPlain
import Derived.Test.YtgpefnlpbjnjbaaGreatAnyTmN
import Derived.Test.YtgpefnlpbjnjbaaGreatNm
import Derived.Test.YtgpefnlpbjnjbaaGreatToSc
import Derived.Lib.AppendZeros
import Derived.Laws.OwnMore
import Derived.Deep.AppendLies
import Derived.Test.YtgpefnlpbjnjbaaGreatTmValid
import Derived.Deep.RegionHeld3
import Derived.Test.YtgpefnlpbjnjbaaGreatTmFits
import Derived.Test.YtgpefnlpbjnjbaaGreatFst
import Derived.Test.YtgpefnlpbjnjbaaGreatSc
import Derived.Test.YtgpefnlpbjnjbaaGreatTwo
import Derived.Lib.QuietBelow
import Derived.Test.YtgpefnlpbjnjbaaGreatDatImpl
import Derived.Test.YtgpefnlpbjnjbaaGreatPgNamed
import Derived.Test.YtgpefnlpbjnjbaaGreatSzDf
import Derived.Test.YtgpefnlpbjnjbaaGreatKeep
import Derived.Test.YtgpefnlpbjnjbaaGreatDDf
import Derived.Test.YtgpefnlpbjnjbaaGreatPgOkI
import Derived.Test.YtgpefnlpbjnjbaaGreatAnyDf
import Derived.BigQuiet
namespace Go.Proofs.YtgpefnlpbjnjbaaGreat
open Go.RowKit

mutual
def Tm.free : Tm → List ByteArray → List ByteArray → List ByteArray
  | .mk k _ n _ ns ks, sc, out => if k = 1 then (if hasStr sc n = true then out else if hasStr out n = true then out else out ++ [n]) else Tm.frees k n ns 0 ks sc out
def Tm.frees (k : Int) (n : ByteArray) (ns : List ByteArray) : Nat → List Tm → List ByteArray → List ByteArray → List ByteArray
  | _, [], _, out => out
  | i, t :: ts, sc, out => Tm.frees k n ns (i + 1) ts sc (Tm.free t (sc ++ boundOf k n ns i) out)
end
theorem Tm.frees_take (k : Int) (n : ByteArray) (ns : List ByteArray) : ∀ (ts : List Tm) (i j : Nat) (t : Tm) (sc out : List ByteArray), ts[j]? = some t → Tm.frees k n ns i (ts.take (j + 1)) sc out = Tm.free t (sc ++ boundOf k n ns (i + j)) (Tm.frees k n ns i (ts.take j) sc out)
  | [], i, j, t, sc, out, h => by simp at h
  | u :: ts, i, 0, t, sc, out, h => by simp at h; subst h; simp [Tm.frees]
  | u :: ts, i, j + 1, t, sc, out, h => by
    have := Tm.frees_take k n ns ts (i + 1) j t sc (Tm.free u (sc ++ boundOf k n ns i) out) (by simpa using h)
    rw [show i + 1 + j = i + (j + 1) by omega] at this
    rw [List.take_succ_cons, List.take_succ_cons, Tm.frees, Tm.frees, this]
mutual
theorem Tm.free_len : ∀ (t : Tm) (sc out : List ByteArray), (Tm.free t sc out).length ≤ out.length + 1 + Tm.bulk t
  | .mk k u n t ns ks, sc, out => by
    have h := Tm.frees_len k n ns 0 ks sc out
    rw [Tm.free]
    split
    · split
      · omega
      · split
        · omega
        · simp only [List.length_append, List.length_cons, List.length_nil]; omega
    · simp only [Tm.bulk]; omega
theorem Tm.frees_len (k : Int) (n : ByteArray) (ns : List ByteArray) : ∀ (i : Nat) (ts : List Tm) (sc out : List ByteArray), (Tm.frees k n ns i ts sc out).length ≤ out.length + Tm.bulks ts
  | i, [], sc, out => by simp [Tm.frees]
  | i, t :: ts, sc, out => by
    have h := Tm.free_len t (sc ++ boundOf k n ns i) out
    have h2 := Tm.frees_len k n ns (i + 1) ts sc (Tm.free t (sc ++ boundOf k n ns i) out)
    rw [Tm.frees, Tm.bulks]; omega
end
mutual
theorem Tm.free_in : ∀ (t : Tm) (sc out : List ByteArray), ∀ x ∈ Tm.free t sc out, x ∈ out ∨ x.size ≤ Tm.bulk t
  | .mk k u n t ns ks, sc, out, x, hx => by
    rw [Tm.free] at hx
    split at hx
    · split at hx
      · exact .inl hx
      · split at hx
        · exact .inl hx
        · rcases List.mem_append.1 hx with hx | hx
          · exact .inl hx
          · simp only [List.mem_cons, List.not_mem_nil, or_false] at hx
            subst hx
            exact .inr (by simp only [Tm.bulk]; omega)
    · rcases Tm.frees_in k n ns 0 ks sc out x hx with h | h
      · exact .inl h
      · exact .inr (by simp only [Tm.bulk]; omega)
theorem Tm.frees_in (k : Int) (n : ByteArray) (ns : List ByteArray) : ∀ (i : Nat) (ts : List Tm) (sc out : List ByteArray), ∀ x ∈ Tm.frees k n ns i ts sc out, x ∈ out ∨ x.size ≤ Tm.bulks ts
  | i, [], sc, out, x, hx => by rw [Tm.frees] at hx; exact .inl hx
  | i, t :: ts, sc, out, x, hx => by
    rw [Tm.frees] at hx
    rcases Tm.frees_in k n ns (i + 1) ts sc _ x hx with h | h
    · rcases Tm.free_in t _ out x h with h | h
      · exact .inl h
      · exact .inr (by rw [Tm.bulks]; omega)
    · exact .inr (by rw [Tm.bulks]; omega)
end
def freeN (t : Tm) : List ByteArray := if Tm.ok t then Tm.free t [] [] else []
theorem freeN_yes {t : Tm} (h : Tm.ok t = true) : freeN t = Tm.free t [] [] := if_pos h
theorem freeN_no {t : Tm} (h : Tm.ok t = false) : freeN t = [] := by rw [freeN, h]; rfl
theorem free_sz (t : Tm) (hM : Tm.bulk t ≤ 1048576) : ∀ x ∈ Tm.free t [] [], x.size ≤ 9223372036854775807 := by
  intro x hx
  rcases Tm.free_in t [] [] x hx with h | h
  · simp at h
  · omega
theorem freeN_len (t : Tm) : (freeN t).length ≤ 1 + Tm.bulk t := by
  unfold freeN
  split
  · have := Tm.free_len t [] []; simp at this; omega
  · simp
theorem boundOf_len (k : Int) (n : ByteArray) (ns : List ByteArray) (i : Nat) : (boundOf k n ns i).length ≤ 1 + ns.length := by
  unfold boundOf
  split
  · simp
  · split
    · split <;> simp
    · split
      · omega
      · simp
theorem Tm.free_has {u : Int} {n : ByteArray} {t : Ty} {ns : List ByteArray} {ks : List Tm} {sc out : List ByteArray} (h : hasStr sc n = true) : Tm.free (.mk 1 u n t ns ks) sc out = out := by rw [Tm.free, if_pos rfl, if_pos h]
theorem Tm.free_out {u : Int} {n : ByteArray} {t : Ty} {ns : List ByteArray} {ks : List Tm} {sc out : List ByteArray} (h : hasStr sc n = false) (h2 : hasStr out n = true) : Tm.free (.mk 1 u n t ns ks) sc out = out := by rw [Tm.free, if_pos rfl, h, if_neg (by simp), if_pos h2]
theorem Tm.free_new {u : Int} {n : ByteArray} {t : Ty} {ns : List ByteArray} {ks : List Tm} {sc out : List ByteArray} (h : hasStr sc n = false) (h2 : hasStr out n = false) : Tm.free (.mk 1 u n t ns ks) sc out = out ++ [n] := by rw [Tm.free, if_pos rfl, h, if_neg (by simp), h2, if_neg (by simp)]
theorem Tm.free_mk {k : Int} (hk : k ≠ 1) (u : Int) (n : ByteArray) (t : Ty) (ns : List ByteArray) (ks : List Tm) (sc out : List ByteArray) : Tm.free (.mk k u n t ns ks) sc out = Tm.frees k n ns 0 ks sc out := by rw [Tm.free, if_neg hk]
end Go.Proofs.YtgpefnlpbjnjbaaGreat

namespace Go.Proofs.YtgpefnlpbjnjbaaGreat
open Go.ChangeShapes Go.WideShapes Go.ChangeAt Go.RowKit Go.BigFrame
open Go.Sort (grow)
set_option linter.unusedVariables false

def conIs (nm : ByteArray) : Con → Bool
  | .mk n _ => decide (n = nm)
/-- The declaration and the tag of a constructor, from the declaration i on. -/
def conOf (nm : ByteArray) : List Dat → Int → Int × Int
  | [], _ => (-1, -1)
  | d :: ds, i => if 0 ≤ fstAt (conIs nm) (datCons d) then (i, fstAt (conIs nm) (datCons d)) else conOf nm ds (i + 1)
/-- The tag that the program hands back: 0 where there is none. -/
def tagOf (r : Int × Int) : Int := if r.1 < 0 then 0 else r.2
theorem tagOf_no {r1 r2 : Int} (h : r1 < 0) : tagOf (r1, r2) = 0 := if_pos h
theorem tagOf_yes {r1 r2 : Int} (h : 0 ≤ r1) : tagOf (r1, r2) = r2 := if_neg (by simp only []; omega)
def foundC (ts : List Dat) (nm : ByteArray) : Int × Int × Bool := if datasOk ts && decide (0 ≤ (conOf nm ts 0).1) then ((conOf nm ts 0).1, (conOf nm ts 0).2, true) else (0, 0, false)
theorem conOf_step (nm : ByteArray) (ts : List Dat) (j : Nat) (n : ByteArray) (qs : List Con) (h : ts[j]? = some (.mk n qs)) : conOf nm (ts.drop j) j = if 0 ≤ fstAt (conIs nm) qs then ((j : Int), fstAt (conIs nm) qs) else conOf nm (ts.drop (j + 1)) ((j + 1 : Nat) : Int) := by
  rw [drop_get h, conOf]; rfl
theorem spec_Con (ts : List Dat) (a : Option Addr) (c : Nat) (nm : ByteArray) (w : World) (hM : Dat.bulks ts ≤ 1048576) (hd : RdL w (Dat.ds ts) (.slice a ts.length c)) :
    Calls Tryz.prog 88 #[.slice a ts.length c, .string nm] w fun e w' => e = .returned (.tuple #[.int .i64 (conOf nm ts 0).1, .int .i64 (conOf nm ts 0).2]) ∧ Below w.heap.size w w' := by
  have hlen := Dat.bulks_length ts
  obtain ⟨_, _, e, h2, h3, h4'⟩ := hd.eDat
  simp only [Value.slice.injEq, true_and] at e
  obtain ⟨rfl, rfl⟩ := e
  have H4 := hid h4'
  have HM := hid hM
  have hl2 : ts.length ≤ 1048576 := by omega
  clear hd h4' hM hlen h2 h3
  go_enter Tryz.func88, Tryz.ntmps88
  go_wp2_with fail
  go_loopw [6] (fun i wr => ∃ (j : Nat), j ≤ ts.length ∧ i = .int .i64 j ∧ Hid (conOf nm ts 0 = conOf nm (ts.drop j) j) ∧ w = wr) (fun i _ => ts.length - (intOf i).toNat)
  case atStart => exact ⟨0, by omega, rfl, rfl, rfl⟩
  case round =>
    obtain ⟨j, hj, rfl, HJ, rfl⟩ := hrel
    by_cases hlt : j < ts.length
    case neg =>
      have HE := hid (show conOf nm ts 0 = (-1, -1) by rw [HJ.out, List.drop_eq_nil_of_le (by omega), conOf])
      go_wp2_with fail
      go_ret2
      exact ⟨by rw [HE.out]; rfl, Below.refl _ _⟩
    case pos =>
    obtain ⟨b, o, rfl, hbl, hall⟩ := H4.out (by omega)
    obtain ⟨t, ht⟩ : ∃ t, ts[j]? = some t := ⟨_, List.getElem?_eq_getElem hlt⟩
    obtain ⟨n1, qs1⟩ := t
    obtain ⟨aqs1, cqs1, q0, q1, hrk⟩ := hall j n1 qs1 ht
    clear hall H4
    have hbg := Dat.bulk_get ts j _ ht
    have hbk : Dat.bulk (.mk n1 qs1) = n1.size + Con.bulks qs1 := rfl
    have hql := Con.bulks_length qs1
    have hql2 : qs1.length ≤ 1048576 := by have := HM.out; omega
    obtain ⟨_, _, e, k2, k3, k4⟩ := hrk.fDat.2.eCon
    simp only [Value.slice.injEq, true_and] at e
    obtain ⟨rfl, rfl⟩ := e
    have HQ4 := hid k4
    have HST := hid (conOf_step nm ts j n1 qs1 ht)
    have d1 := q1
    clear k2 k3 k4 hrk ht q0 q1 hbg hbk hql
    go_wp2_with fail
    go_loopw [7] (fun k wk => ∃ (m : Nat), m ≤ qs1.length ∧ k = .int .i64 m ∧ Hid (∀ (i : Nat) t, i < m → qs1[i]? = some t → conIs nm t = false) ∧ w = wk) (fun k _ => qs1.length - (intOf k).toNat)
    case atStart => exact ⟨0, by omega, rfl, fun i t hi => absurd hi (by omega), rfl⟩
    case round =>
      obtain ⟨m, hm, rfl, HK, rfl⟩ := hrel
      by_cases hlk : m < qs1.length
      case neg =>
        have HE := hid (show conOf nm ts 0 = conOf nm (ts.drop (j + 1)) ((j + 1 : Nat) : Int) by
          rw [HJ.out, HST.out, fstAt_no _ qs1 fun i t hti => HK.out i t (by have := (List.getElem?_eq_some_iff.1 hti).1; omega) hti]; rfl)
        go_wp2_with fail
        go_roundw
        case rel => exact ⟨j + 1, by omega, by go_num, HE.out, by first | rfl | trivial⟩
        case measure => simp [intOf]; omega
      case pos =>
        obtain ⟨b2, o2, ea, hbl2, hall2⟩ := HQ4.out (by omega)
        subst ea
        obtain ⟨t, ht⟩ : ∃ t, qs1[m]? = some t := ⟨_, List.getElem?_eq_getElem hlk⟩
        obtain ⟨n3, fs3⟩ := t
        obtain ⟨afs3, cfs3, q0, q1, hrk3⟩ := hall2 m n3 fs3 ht
        have HT := hid ht
        have e0 := q0
        clear hall2 hrk3 q0 q1 ht
        by_cases hq : n3 = nm
        case pos =>
          have hb := bytes_eq hq
          have HQ := hid (show conIs nm (.mk n3 fs3) = true by simp [conIs, hq])
          have HE := hid (show conOf nm ts 0 = ((j : Int), (m : Int)) by
            rw [HJ.out, HST.out, fstAt_yes _ qs1 m _ HT.out HQ.out HK.out, if_pos (by omega)])
          clear hq
          go_wp2_with fail
          go_ret2
          exact ⟨by rw [HE.out]; rfl, Below.refl _ _⟩
        case neg =>
          have hb := bytes_ne hq
          have HQ := hid (show conIs nm (.mk n3 fs3) = false by simp [conIs, hq])
          clear hq
          go_wp2_with fail
          go_roundw
          case rel => exact ⟨m + 1, by omega, by go_num, fun i t hi hti => (Nat.lt_succ_iff_lt_or_eq.1 hi).elim (fun hi => HK.out i t hi hti) (fun he => by subst he; obtain rfl := Option.some.inj (hti.symm.trans HT.out); exact HQ.out), by first | rfl | trivial⟩
          case measure => simp [intOf]; omega
theorem impl_Con (ts : List Dat) (a : Option Addr) (c : Nat) (nm : ByteArray) (w : World) (hM : Dat.bulks ts ≤ 1048576) (hd : RdL w (Dat.ds ts) (.slice a ts.length c)) :
    Calls Tryz.prog 70 #[.slice a ts.length c, .string nm] w fun e w' => e = .returned (.tuple #[.int .i64 (conOf nm ts 0).1, .int .i64 (tagOf (conOf nm ts 0))]) ∧ Below w.heap.size w w' := by
  have hlen := Dat.bulks_length ts
  obtain ⟨_, _, e, h2, h3, h4'⟩ := hd.eDat
  simp only [Value.slice.injEq, true_and] at e
  obtain ⟨rfl, rfl⟩ := e
  have H4 := hid h4'
  have HM := hid hM
  have hl2 : ts.length ≤ 1048576 := by omega
  clear hd h4' hM hlen h2 h3
  go_enter Tryz.func70, Tryz.ntmps70
  go_wp2_with fail
  go_loopw [12] (fun i wr => ∃ (j : Nat), j ≤ ts.length ∧ i = .int .i64 j ∧ Hid (conOf nm ts 0 = conOf nm (ts.drop j) j) ∧ Below w.heap.size w wr) (fun i _ => ts.length - (intOf i).toNat)
  case atStart => exact ⟨0, by omega, rfl, rfl, Below.refl _ _⟩
  case round =>
    obtain ⟨j, hj, rfl, HJ, hbw0⟩ := hrel
    by_cases hlt : j < ts.length
    case neg =>
      have HE := hid (show conOf nm ts 0 = (-1, -1) by rw [HJ.out, List.drop_eq_nil_of_le (by omega), conOf])
      go_wp2_with fail
      go_ret2
      exact ⟨by rw [HE.out]; rfl, hbw0⟩
    case pos =>
    obtain ⟨b, o, rfl, hbl, hall⟩ := H4.out (by omega)
    obtain ⟨t, ht⟩ : ∃ t, ts[j]? = some t := ⟨_, List.getElem?_eq_getElem hlt⟩
    obtain ⟨n1, qs1⟩ := t
    obtain ⟨aqs1, cqs1, q0, q1, hrk⟩ := hall j n1 qs1 ht
    clear hall H4
    have hbg := Dat.bulk_get ts j _ ht
    have hbk : Dat.bulk (.mk n1 qs1) = n1.size + Con.bulks qs1 := rfl
    have hql := Con.bulks_length qs1
    have hql2 : qs1.length ≤ 1048576 := by have := HM.out; omega
    obtain ⟨_, _, e, k2, k3, k4⟩ := hrk.fDat.2.eCon
    simp only [Value.slice.injEq, true_and] at e
    obtain ⟨rfl, rfl⟩ := e
    have HQ4 := hid k4
    have HST := hid (conOf_step nm ts j n1 qs1 ht)
    have d0 := (hbw0.cell (p := ⟨b, o + j * 2, none⟩) hbl).trans q0
    have d1 := (hbw0.cell (p := ⟨b, o + j * 2 + 1, none⟩) hbl).trans q1
    have hbx0 := hbw0.alloc hbw0.size (.cells #[.string n1, .slice aqs1 qs1.length cqs1] 95)
    have HBX0 := hid hbx0
    clear k2 k3 k4 hrk ht q0 q1 hbg hbk hql hbw0 hbx0
    go_wp2_with fail
    clear d0 d1
    go_loopw [20] (fun k wk => ∃ (m : Nat), m ≤ qs1.length ∧ k = .int .i64 m ∧ Hid (∀ (i : Nat) t, i < m → qs1[i]? = some t → conIs nm t = false) ∧ Below w.heap.size w wk) (fun k _ => qs1.length - (intOf k).toNat)
    case atStart => exact ⟨0, by omega, rfl, fun i t hi => absurd hi (by omega), HBX0.out⟩
    case round =>
      obtain ⟨m, hm, rfl, HK, hbw1⟩ := hrel
      by_cases hlk : m < qs1.length
      case neg =>
        have HE := hid (show conOf nm ts 0 = conOf nm (ts.drop (j + 1)) ((j + 1 : Nat) : Int) by
          rw [HJ.out, HST.out, fstAt_no _ qs1 fun i t hti => HK.out i t (by have := (List.getElem?_eq_some_iff.1 hti).1; omega) hti]; rfl)
        go_wp2_with fail
        go_roundw
        case rel => exact ⟨j + 1, by omega, by go_num, HE.out, hbw1⟩
        case measure => simp [intOf]; omega
      case pos =>
        obtain ⟨b2, o2, ea, hbl2, hall2⟩ := HQ4.out (by omega)
        subst ea
        obtain ⟨t, ht⟩ : ∃ t, qs1[m]? = some t := ⟨_, List.getElem?_eq_getElem hlk⟩
        obtain ⟨n3, fs3⟩ := t
        obtain ⟨afs3, cfs3, q0, q1, hrk3⟩ := hall2 m n3 fs3 ht
        have HT := hid ht
        have e0 := (hbw1.cell (p := ⟨b2, o2 + m * 2, none⟩) hbl2).trans q0
        have e1 := (hbw1.cell (p := ⟨b2, o2 + m * 2 + 1, none⟩) hbl2).trans q1
        have hbx1 := hbw1.alloc hbw1.size (.cells #[.string n3, .slice afs3 fs3.length cfs3] 116)
        have HBX1 := hid hbx1
        clear hbw1 hbx1
        clear hall2 hrk3 q0 q1 ht
        by_cases hq : n3 = nm
        case pos =>
          have hb := bytes_eq hq
          have HQ := hid (show conIs nm (.mk n3 fs3) = true by simp [conIs, hq])
          have HE := hid (show conOf nm ts 0 = ((j : Int), (m : Int)) by
            rw [HJ.out, HST.out, fstAt_yes _ qs1 m _ HT.out HQ.out HK.out, if_pos (by omega)])
          clear hq
          go_wp2_with fail
          go_ret2
          exact ⟨by rw [HE.out]; rw [tagOf_yes (by omega)]; rfl, HBX1.out⟩
        case neg =>
          have hb := bytes_ne hq
          have HQ := hid (show conIs nm (.mk n3 fs3) = false by simp [conIs, hq])
          clear hq
          go_wp2_with fail
          go_roundw
          case rel => exact ⟨m + 1, by omega, by go_num, fun i t hi hti => (Nat.lt_succ_iff_lt_or_eq.1 hi).elim (fun hi => HK.out i t hi hti) (fun he => by subst he; obtain rfl := Option.some.inj (hti.symm.trans HT.out); exact HQ.out), HBX1.out⟩
          case measure => simp [intOf]; omega
end Go.Proofs.YtgpefnlpbjnjbaaGreat

namespace Go.Proofs.YtgpefnlpbjnjbaaGreat
open Go.RowKit

theorem any_y {α : Type} {p : α → Bool} {l : List α} {j : Nat} {t : α} (h : l[j]? = some t) (hp : p t = true) : l.any p = true := List.any_eq_true.2 ⟨t, List.mem_of_getElem? h, hp⟩
theorem any_n {α : Type} {p : α → Bool} {l : List α} (h : ∀ (j : Nat) t, l[j]? = some t → p t = false) : l.any p = false := by
  rw [List.any_eq_false]
  intro x hx
  obtain ⟨j, hj⟩ := List.mem_iff_getElem?.1 hx
  simp [h j x hj]
theorem any_g {α : Type} {p : α → Bool} {l : List α} (h : l.any p = false) {j : Nat} {t : α} (hj : l[j]? = some t) : p t = false := by
  rw [List.any_eq_false] at h
  have := h t (List.mem_of_getElem? hj)
  simpa using this
def conIdx (ds : List Dat) (n : ByteArray) : Int := (conOf n ds 0).1
def consAt (ds : List Dat) (i : Int) : List Con := match ds[i.toNat]? with | some d => datCons d | none => []
def lenFs : Con → Nat | .mk _ fs => fs.length
def fieldsNo (ds : List Dat) (n : ByteArray) : Nat := match (consAt ds (conOf n ds 0).1)[(conOf n ds 0).2.toNat]? with | some c => lenFs c | none => 0
theorem conOf_get (nm : ByteArray) : ∀ (ds : List Dat) (i : Nat), 0 ≤ (conOf nm ds i).1 → ∃ (j : Nat) (m : ByteArray) (cs : List Con) (q : Nat) (c : Con), ds[j]? = some (.mk m cs) ∧ conOf nm ds i = (((i + j : Nat) : Int), (q : Int)) ∧ cs[q]? = some c
  | [], i, h => by simp [conOf] at h
  | .mk m cs :: ds, i, h => by
    rw [conOf] at h ⊢
    by_cases hf : 0 ≤ fstAt (conIs nm) (datCons (.mk m cs))
    · rw [if_pos hf]
      have hl := fstAt_lt (conIs nm) (datCons (.mk m cs))
      obtain ⟨q, hq⟩ : ∃ q : Nat, fstAt (conIs nm) (datCons (.mk m cs)) = (q : Int) := ⟨(fstAt (conIs nm) (datCons (.mk m cs))).toNat, by omega⟩
      rw [hq] at hl ⊢
      have hq' : q < cs.length := by simpa [datCons] using hl
      exact ⟨0, m, cs, q, cs[q], rfl, by simp, List.getElem?_eq_getElem hq'⟩
    · rw [if_neg hf] at h ⊢
      have e : ((i : Int) + 1) = ((i + 1 : Nat) : Int) := by omega
      rw [e] at h ⊢
      obtain ⟨j, m', cs', q, c, h1, h2, h3⟩ := conOf_get nm ds (i + 1) h
      exact ⟨j + 1, m', cs', q, c, by simpa using h1, by rw [h2, show i + 1 + j = i + (j + 1) by omega], h3⟩
/-- Where a known constructor lies. -/
theorem con_at {ds : List Dat} {nm : ByteArray} (h : 0 ≤ (conOf nm ds 0).1) : ∃ (j : Nat) (m : ByteArray) (cs : List Con) (q : Nat) (n : ByteArray) (fs : List Ty), ds[j]? = some (.mk m cs) ∧ conOf nm ds 0 = ((j : Int), (q : Int)) ∧ cs[q]? = some (.mk n fs) ∧ consAt ds j = cs ∧ fieldsNo ds nm = fs.length := by
  obtain ⟨j, m, cs, q, c, h1, h2, h3⟩ := conOf_get nm ds 0 h
  obtain ⟨n, fs⟩ := c
  rw [Nat.zero_add] at h2
  have hc : consAt ds (j : Int) = cs := by unfold consAt; rw [Int.toNat_natCast, h1]; rfl
  refine ⟨j, m, cs, q, n, fs, h1, h2, h3, hc, ?_⟩
  unfold fieldsNo
  have h2' : conOf nm ds 0 = ((j : Int), (q : Int)) := h2
  rw [h2', hc, Int.toNat_natCast, h3]; rfl
def caseFits : Tm → Con → Bool | .mk _ _ n _ ns _, .mk m fs => decide (n = m) && decide (ns.length = fs.length)
def casesEq : List Tm → List Con → Bool
  | [], [] => true
  | t :: ts, c :: cs => caseFits t c && casesEq ts cs
  | _, _ => false
theorem casesEq_len : ∀ (ts : List Tm) (cs : List Con), ts.length ≠ cs.length → casesEq ts cs = false
  | [], [], h => absurd rfl h
  | [], _ :: _, _ => rfl
  | _ :: _, [], _ => rfl
  | t :: ts, c :: cs, h => by rw [casesEq, casesEq_len ts cs (by simpa using h)]; simp
theorem casesEq_no : ∀ (ts : List Tm) (cs : List Con) (j : Nat) (t : Tm) (c : Con), ts[j]? = some t → cs[j]? = some c → caseFits t c = false → casesEq ts cs = false
  | [], _, j, t, c, h, _, _ => by simp at h
  | _ :: _, [], j, t, c, _, h, _ => by simp at h
  | t' :: ts, c' :: cs, 0, t, c, h, h', e => by simp at h h'; subst h h'; simp [casesEq, e]
  | t' :: ts, c' :: cs, j + 1, t, c, h, h', e => by rw [casesEq, casesEq_no ts cs j t c (by simpa using h) (by simpa using h') e]; simp
theorem casesEq_yes : ∀ (ts : List Tm) (cs : List Con), ts.length = cs.length → (∀ (j : Nat) t c, ts[j]? = some t → cs[j]? = some c → caseFits t c = true) → casesEq ts cs = true
  | [], [], _, _ => rfl
  | [], _ :: _, h, _ => by simp at h
  | _ :: _, [], h, _ => by simp at h
  | t :: ts, c :: cs, h, e => by
    rw [casesEq, e 0 t c rfl rfl, casesEq_yes ts cs (by simpa using h) (fun j t c h1 h2 => e (j + 1) t c (by simpa using h1) (by simpa using h2))]
    rfl
def tmNm : Tm → ByteArray | .mk _ _ n _ _ _ => n
def name1 (ks : List Tm) : ByteArray := match ks[1]? with | some t => tmNm t | none => ⟨#[]⟩
def badName (ds : List Dat) : Tm → Bool
  | .mk k _ n t _ _ => if k = 4 then !Ty.known ds t else if k = 8 ∨ k = 10 then decide (conIdx ds n < 0) else false
def wrongB (ds : List Dat) : Tm → Bool
  | .mk k _ n _ _ ks => if k = 8 then !decide (ks.length = fieldsNo ds n) else if k = 9 then !casesEq (ks.drop 1) (consAt ds (conIdx ds (name1 ks))) else false
def noDef (fs : List Df) (nm : ByteArray) : Bool := decide (namedF fs nm < 0)
def unknownD (ds : List Dat) (fs : List Df) : Df → Bool
  | .mk _ t b => !Ty.known ds t || ((Tm.free b [] []).any (noDef fs) || Tm.anyN (badName ds) b)
def wrongD (ds : List Dat) : Df → Bool
  | .mk _ _ b => Tm.anyN (wrongB ds) b
def checkN : Pg → Int
  | .mk ds fs => if progOk ds fs then (if fs.any (unknownD ds fs) then 7 else if fs.any (wrongD ds) then 2 else 0) else 1
theorem checkN_bad {ds : List Dat} {fs : List Df} (h : progOk ds fs = false) : checkN (.mk ds fs) = 1 := by rw [checkN, h]; rfl
theorem checkN_name {ds : List Dat} {fs : List Df} (h : progOk ds fs = true) (h2 : fs.any (unknownD ds fs) = true) : checkN (.mk ds fs) = 7 := by rw [checkN, h, h2]; rfl
theorem checkN_range {ds : List Dat} {fs : List Df} (h : progOk ds fs = true) (h2 : fs.any (unknownD ds fs) = false) (h3 : fs.any (wrongD ds) = true) : checkN (.mk ds fs) = 2 := by rw [checkN, h, h2, h3]; rfl
theorem checkN_ok {ds : List Dat} {fs : List Df} (h : progOk ds fs = true) (h2 : fs.any (unknownD ds fs) = false) (h3 : fs.any (wrongD ds) = false) : checkN (.mk ds fs) = 0 := by rw [checkN, h, h2, h3]; rfl
theorem unknownD_mk (ds : List Dat) (fs : List Df) (n : ByteArray) (t : Ty) (b : Tm) : unknownD ds fs (.mk n t b) = (!Ty.known ds t || ((Tm.free b [] []).any (noDef fs) || Tm.anyN (badName ds) b)) := rfl
theorem Tm.anyN_mk (p : Tm → Bool) (k u : Int) (n : ByteArray) (t : Ty) (ns : List ByteArray) (ks : List Tm) : Tm.anyN p (.mk k u n t ns ks) = (p (.mk k u n t ns ks) || ks.any (Tm.anyN p)) := by rw [Tm.anyN, Tm.anyNs_any]
theorem badName_lam (ds : List Dat) (u : Int) (n : ByteArray) (t : Ty) (ns : List ByteArray) (ks : List Tm) : badName ds (.mk 4 u n t ns ks) = !Ty.known ds t := by rw [badName, if_pos rfl]
theorem badName_con (ds : List Dat) {k : Int} (h : k = 8 ∨ k = 10) (u : Int) (n : ByteArray) (t : Ty) (ns : List ByteArray) (ks : List Tm) : badName ds (.mk k u n t ns ks) = decide (conIdx ds n < 0) := by rw [badName, if_neg (by omega), if_pos h]
theorem badName_else (ds : List Dat) {k : Int} (h4 : k ≠ 4) (h8 : k ≠ 8) (h10 : k ≠ 10) (u : Int) (n : ByteArray) (t : Ty) (ns : List ByteArray) (ks : List Tm) : badName ds (.mk k u n t ns ks) = false := by rw [badName, if_neg h4, if_neg (by omega)]
theorem wrongB_con (ds : List Dat) (u : Int) (n : ByteArray) (t : Ty) (ns : List ByteArray) (ks : List Tm) : wrongB ds (.mk 8 u n t ns ks) = !decide (ks.length = fieldsNo ds n) := by rw [wrongB, if_pos rfl]
theorem wrongB_match (ds : List Dat) (u : Int) (n : ByteArray) (t : Ty) (ns : List ByteArray) (ks : List Tm) : wrongB ds (.mk 9 u n t ns ks) = !casesEq (ks.drop 1) (consAt ds (conIdx ds (name1 ks))) := by rw [wrongB, if_neg (by decide), if_pos rfl]
theorem wrongB_else (ds : List Dat) {k : Int} (h8 : k ≠ 8) (h9 : k ≠ 9) (u : Int) (n : ByteArray) (t : Ty) (ns : List ByteArray) (ks : List Tm) : wrongB ds (.mk k u n t ns ks) = false := by rw [wrongB, if_neg h8, if_neg h9]
/-- A term whose names are known: each node's. -/
def named1 (ds : List Dat) (t : Tm) : Prop := Tm.good t = true ∧ Tm.anyN (badName ds) t = false
theorem named1_kid {ds : List Dat} {k u : Int} {n : ByteArray} {t : Ty} {ns : List ByteArray} {ks : List Tm} (h : named1 ds (.mk k u n t ns ks)) {j : Nat} {x : Tm} (hj : ks[j]? = some x) : named1 ds x := by
  obtain ⟨h1, h2⟩ := h
  rw [Tm.good, Bool.and_eq_true, Bool.and_eq_true] at h1
  rw [Tm.anyN_mk, Bool.or_eq_false_iff] at h2
  exact ⟨Tm.goods_get ks j x h1.2.2 hj, any_g h2.2 hj⟩
theorem named1_con {ds : List Dat} {k u : Int} {n : ByteArray} {t : Ty} {ns : List ByteArray} {ks : List Tm} (h : named1 ds (.mk k u n t ns ks)) (hk : k = 8 ∨ k = 10) : 0 ≤ (conOf n ds 0).1 := by
  have h2 := h.2
  rw [Tm.anyN_mk, Bool.or_eq_false_iff, badName_con ds hk] at h2
  have h3 := of_decide_eq_false h2.1
  unfold conIdx at h3
  omega
theorem casesOk_get (k : Int) : ∀ (i : Nat) (ts : List Tm) (j : Nat) (t : Tm), casesOk k i ts = true → ts[j]? = some t → (Tm.isCase t == (decide (k = 9) && decide (0 < i + j))) = true
  | i, [], j, t, _, h => by simp at h
  | i, u :: ts, 0, t, g, h => by
    simp at h; subst h
    rw [casesOk, Bool.and_eq_true] at g
    rw [Nat.add_zero]; exact g.1
  | i, u :: ts, j + 1, t, g, h => by
    rw [casesOk, Bool.and_eq_true] at g
    have := casesOk_get k (i + 1) ts j t g.2 (by simpa using h)
    rw [show i + 1 + j = i + (j + 1) by omega] at this
    exact this
/-- The first case of a match: its name is known. -/
theorem named1_match {ds : List Dat} {u : Int} {n : ByteArray} {t : Ty} {ns : List ByteArray} {ks : List Tm} (h : named1 ds (.mk 9 u n t ns ks)) : 2 ≤ ks.length ∧ 0 ≤ (conOf (name1 ks) ds 0).1 := by
  have h1 := h.1
  rw [Tm.good, Bool.and_eq_true, Bool.and_eq_true] at h1
  have hl : 2 ≤ ks.length := by
    have h2 := h1.1
    rw [okTm, Bool.and_eq_true] at h2
    have h3 := h2.1
    simp [tmN, inR] at h3
    omega
  refine ⟨hl, ?_⟩
  obtain ⟨x, hx⟩ : ∃ x, ks[1]? = some x := ⟨_, List.getElem?_eq_getElem (by omega)⟩
  have hc := casesOk_get 9 0 ks 1 x h1.2.1 hx
  have hn := named1_kid h hx
  obtain ⟨k', u', n', t', ns', ks'⟩ := x
  have hk : k' = 10 := by simpa [Tm.isCase] using hc
  have := named1_con hn (.inr hk)
  unfold name1
  rw [hx]; exact this
theorem name1_get {ks : List Tm} {k u : Int} {n : ByteArray} {t : Ty} {ns : List ByteArray} {kk : List Tm} (h : ks[1]? = some (.mk k u n t ns kk)) : name1 ks = n := by unfold name1; rw [h]; rfl
theorem dfsOk_get (fs : List Df) : ∀ (ds : List Df) (i j : Nat) (d : Df), dfsOk fs ds i = true → ds[j]? = some d → dfOk fs (i + j) d = true
  | [], i, j, d, _, h => by simp at h
  | e :: ds, i, 0, d, g, h => by simp at h; subst h; rw [dfsOk, Bool.and_eq_true] at g; exact g.1
  | e :: ds, i, j + 1, d, g, h => by
    rw [dfsOk, Bool.and_eq_true] at g
    have := dfsOk_get fs ds (i + 1) j d g.2 (by simpa using h)
    rw [show i + 1 + j = i + (j + 1) by omega] at this
    exact this
/-- A definition of a valid program. -/
theorem prog_def {ds : List Dat} {fs : List Df} (h : progOk ds fs = true) {j : Nat} {n : ByteArray} {t : Ty} {b : Tm} (hj : fs[j]? = some (.mk n t b)) : Ty.good t = true ∧ Tm.good b = true := by
  rw [progOk, Bool.and_eq_true, Bool.and_eq_true] at h
  have hd := dfsOk_get fs fs 0 j _ h.2.2 hj
  rw [dfOk_eq] at hd
  simp only [Bool.and_eq_true] at hd
  refine ⟨Ty.ok_good hd.2.2.1, ?_⟩
  have h4 := hd.2.2.2
  rw [Tm.ok, Bool.and_eq_true] at h4
  exact h4.1
theorem prog_len {ds : List Dat} {fs : List Df} (h : progOk ds fs = true) : fs.length ≤ 8 := by
  rw [progOk, Bool.and_eq_true, Bool.and_eq_true] at h
  have := h.2.1
  simp [inR] at this
  omega
end Go.Proofs.YtgpefnlpbjnjbaaGreat

namespace Go.Proofs.YtgpefnlpbjnjbaaGreat
open Go.ChangeShapes Go.WideShapes Go.ChangeAt Go.RowKit Go.BigFrame
open Go.Sort (grow)
set_option linter.unusedVariables false

theorem StrsL.of_own {w : World} {B : Nat} {e : TypeId} {v : Value} {xs : List ByteArray} (h : w.ownsRow B e 1 v xs.length (xs.map Value.string)) : StrsL w xs v := by
  rcases h.2 with ⟨rfl, hn⟩ | ⟨g, cap, cur, rfl, hB, hg, hnc, hcm, hcs, htake⟩
  · exact ⟨none, 0, by rw [hn], by omega, by omega, fun hp => absurd hn (by omega)⟩
  · refine ⟨_, cap, rfl, hnc, by simp only [maxLen] at hcm; omega, fun _ => ⟨g, 0, rfl, (Array.getElem?_eq_some_iff.1 hg).1, fun i s hi => ?_⟩⟩
    have := h.cells rfl i (.string s) (by rw [List.getElem?_map, hi]; rfl)
    rw [Addr.add_lit, Nat.zero_add] at this
    rw [Nat.zero_add]
    exact this
/-- Nothing is appended. -/
theorem run_append_empty {P : Program} (w : World) (base : Nat) (t ty e : TypeId) (i : TypeInfo) (size : Nat) (ht : P.underlying t = some (.slice e)) (hi : P.info? e = some i)
    (v : Value) (n : Nat) (xs : List Value) (hown : w.ownsRow base e size v n xs) (ao : Option Addr) (c : Nat) :
    (Builtin.append_ #[t, t] ty #[v, .slice ao 0 c]).run P w = .ok v w := by
  rcases hown.2 with ⟨rfl, rfl⟩ | ⟨g, cap, cur, rfl, _, _, hnc, _⟩
  · cases ao <;> simp [Builtin.append_, run_underlying ht, sizeOf, typeInfo, hi, Builtin.lenOf, Builtin.firstCells, loadCells, loadCellsFrom]
  · cases ao <;> simp [Builtin.append_, run_underlying ht, sizeOf, typeInfo, hi, Builtin.lenOf, Builtin.firstCells, loadCells, loadCellsFrom, hnc, storeCells]
theorem wpList_append_empty {P : Program} {w : World} {ops : Array Oper} {rest : List Oper} {o : Oper} {a : Act} {Q : Exit → Act → World → Prop} (hgd : o.guard = none) (s x : Operand) (t : TypeId)
    (ho : o.op = .call { callee := .builtin .append, args := #[s, x], argTypes := #[t, t] })
    (base : Nat) (e : TypeId) (i : TypeInfo) (size : Nat) (ht : P.underlying t = some (.slice e)) (hi : P.info? e = some i)
    (v : Value) (n : Nat) (xs : List Value) (hs : a.eval s = v) (hown : w.ownsRow base e size v n xs) (ao : Option Addr) (c : Nat) (hx : a.eval x = .slice ao 0 c)
    (h : wpList P ops Q rest (a.put o.dst v) w) : wpList P ops Q (o :: rest) a w := by
  refine wpList_plain hgd fun K hK => ?_
  have hrun := run_append_empty (P := P) w base t o.type e i size ht hi v n xs hown ao c
  unfold Oper.wp
  simp [execOp, ho, resolve, invoke, builtin, hs, hx, hrun, Result.andThen]
  exact hK _ _ h
/-- A list of names appended to one of the call's own. -/
theorem wpList_append_names {w : World} {ops : Array Oper} {rest : List Oper} {o : Oper} {a : Act} {Q : Exit → Act → World → Prop} (hgd : o.guard = none) (s x : Operand)
    (ho : o.op = .call { callee := .builtin .append, args := #[s, x], argTypes := #[60, 60] })
    (base : Nat) (v : Value) (zs ns : List ByteArray) (vx : Value) (hs : a.eval s = v) (hx : a.eval x = vx) (hown : w.ownsRow base 9 1 v zs.length (zs.map Value.string)) (hL : StrsL w ns vx)
    (h63 : zs.length + ns.length ≤ 4194304) (hbase : base ≤ w.heap.size)
    (hK : ∀ v' w', w'.ownsRow base 9 1 v' (zs ++ ns).length ((zs ++ ns).map Value.string) → w.grownBy w' v.ownBlock → wpList Tryz.prog ops Q rest (a.put o.dst v') w') : wpList Tryz.prog ops Q (o :: rest) a w := by
  obtain ⟨i0, hi, hz0, hz1, hz2⟩ := info_parts infoSr
  obtain ⟨ao, c, rfl, h2, h3, h4⟩ := hL
  by_cases hn : ns = []
  case pos =>
    subst hn
    refine wpList_append_empty hgd s x _ ho base 9 i0 1 Tryz.underlying60 hi v _ _ hs hown ao c (by simpa using hx) ?_
    exact hK v w (by simpa using hown) ⟨rfl, rfl, rfl, Nat.le_refl _, fun k _ _ => rfl⟩
  case neg =>
    obtain ⟨b, o', rfl, hb, hc⟩ := h4 (List.length_pos_iff.2 hn)
    refine wpList_append_own w hgd s x _ ho base 9 i0 _ 1 16 Tryz.underlying60 hi hz0 hz1 hz2 rfl (by decide) v _ _ hs hown ⟨b, o', none⟩ ns.length c (ns.map Value.string) hx (by simp) (fun j u hj => ?_) (fun u hu => ?_) (by simp only [maxLen]; omega) (by omega) hbase (fun v' w' h5 h6 _ => hK v' w' (by simpa using h5) h6)
    · rw [List.getElem?_map] at hj
      obtain ⟨s', hs', rfl⟩ := Option.map_eq_some_iff.1 hj
      rw [Addr.add_lit]
      exact hc j s' hs'
    · obtain ⟨s', _, rfl⟩ := List.mem_map.1 hu
      rfl
/-- .. and where the new list lies. -/
theorem wpList_append_namesF {w : World} {ops : Array Oper} {rest : List Oper} {o : Oper} {a : Act} {Q : Exit → Act → World → Prop} (hgd : o.guard = none) (s x : Operand)
    (ho : o.op = .call { callee := .builtin .append, args := #[s, x], argTypes := #[60, 60] })
    (base : Nat) (v : Value) (zs ns : List ByteArray) (vx : Value) (hs : a.eval s = v) (hx : a.eval x = vx) (hown : w.ownsRow base 9 1 v zs.length (zs.map Value.string)) (hL : StrsL w ns vx)
    (hp : 0 < ns.length) (h63 : zs.length + ns.length ≤ 4194304) (hbase : base ≤ w.heap.size)
    (hK : ∀ v' w', w'.ownsRow base 9 1 v' (zs ++ ns).length ((zs ++ ns).map Value.string) → w.grownBy w' v.ownBlock → (∀ g, v'.ownBlock = some g → v.ownBlock = some g ∨ w.heap.size ≤ g) → wpList Tryz.prog ops Q rest (a.put o.dst v') w') : wpList Tryz.prog ops Q (o :: rest) a w := by
  obtain ⟨i0, hi, hz0, hz1, hz2⟩ := info_parts infoSr
  obtain ⟨ao, c, rfl, h2, h3, h4⟩ := hL
  obtain ⟨b, o', rfl, hb, hc⟩ := h4 hp
  refine wpList_append_lies w hgd s x _ ho base 9 i0 _ 1 16 Tryz.underlying60 hi hz0 hz1 hz2 rfl (by decide) v _ _ hs hown ⟨b, o', none⟩ ns.length c (ns.map Value.string) hx (by simp) (fun j u hj => ?_) (fun u hu => ?_) hp (by simp only [maxLen]; omega) (by omega) hbase w.heap.size rfl (fun g cap w' h5 h6 h7 _ => hK _ w' (by simpa using h5) h6 fun g' hg' => ?_)
  · rw [List.getElem?_map] at hj
    obtain ⟨s', hs', rfl⟩ := Option.map_eq_some_iff.1 hj
    rw [Addr.add_lit]
    exact hc j s' hs'
  · obtain ⟨s', _, rfl⟩ := List.mem_map.1 hu
    rfl
  · simp only [Value.ownBlock, Option.some.injEq] at hg'
    subst hg'
    rcases h7 with h7 | h7
    · exact .inl h7
    · exact .inr (Nat.le_of_eq h7.symm)
/-- A list of names that the call has made. -/
def NewL (w : World) (zs : List ByteArray) (e : Ending) (w' : World) : Prop := ∃ v, e = .returned v ∧ w'.ownsRow w.heap.size 9 1 v zs.length (zs.map Value.string) ∧ Below w.heap.size w w'
theorem own_next {B : Nat} {w0 w w' : World} {v : Value} {xs : List ByteArray} (hb : Below B w0 w) (hB : B ≤ w.heap.size) (ho : w.ownsRow B 9 1 v xs.length (xs.map Value.string)) (hg : w.grownBy w' v.ownBlock) : Below B w0 w' := hb.grown hg hB fun k hk => (ho.lt k hk).1
set_option maxRecDepth 100000 in
theorem with_L (sc ns : List ByteArray) (vs vn : Value) (w : World) (hL : StrsL w sc vs) (hM : StrsL w ns vn) (hn : sc.length + ns.length ≤ 4194304) :
    Calls Tryz.prog 85 #[vs, vn] w (NewL w (sc ++ ns)) := by
  have hb1 : Below w.heap.size w (w.alloc (.cells #[] 9)) := (Below.refl _ _).alloc (Nat.le_refl _) _
  have HB1 := hid hb1
  have HL1 := hid (hL.below hb1)
  have HM0 := hid hM
  have HO1 := hid (show (w.alloc (.cells #[] 9)).ownsRow w.heap.size 9 1 (.slice (some ⟨w.heap.size, 0, none⟩) 0 0) ([] : List ByteArray).length (([] : List ByteArray).map Value.string) from World.ownsRow_made w #[] 0 (Nat.le_refl _) (by simp [maxLen]) rfl)
  have HN := hid hn
  obtain ⟨ax, cx, rfl, -⟩ := hL
  obtain ⟨an, cn, rfl, -⟩ := hM
  clear hb1 hn
  go_enter Tryz.func85, Tryz.ntmps85
  go_wp2_with (at_builtin; refine wpList_append_names rfl _ _ rfl w.heap.size _ [] sc _ rfl rfl HO1.out HL1.out ?c1 ?c2 ?_)
  case c1 => have := HN.out; simp; omega
  case c2 => simp
  intro v1 w1 ho1 hg1
  have hb2 : Below w.heap.size w w1 := own_next (xs := []) HB1.out (by simp) HO1.out hg1
  have HM2 := hid (HM0.out.below hb2)
  have HO2 := hid ho1
  have HB2 := hid hb2
  clear hg1 ho1 hb2
  go_wp2_with (at_builtin; refine wpList_append_names rfl _ _ rfl w.heap.size _ sc ns _ rfl rfl HO2.out HM2.out ?d1 ?d2 ?_)
  case d1 => exact HN.out
  case d2 => exact HB2.out.size
  intro v2 w2 ho2 hg2
  have HP := hid (show NewL w (sc ++ ns) (.returned v2) w2 from ⟨v2, rfl, by simpa using ho2, own_next HB2.out HB2.out.size HO2.out hg2⟩)
  clear ho2 hg2
  go_wp2_with fail
  go_ret
  exact HP.out
theorem grow_L (n : Nat) (hn : n ≤ 4194304) (w : World) : Calls Tryz.prog 163 #[.slice none 0 0, .int .i64 n] w fun e w' => ∃ v, e = .returned v ∧ w'.ownsRow w.heap.size 9 1 v 0 [] ∧ Below w.heap.size w w' := by
  by_cases h0 : n = 0
  case pos =>
    subst h0
    go_enter Tryz.func163, Tryz.ntmps163
    go_wp2_with fail
    go_ret
    exact ⟨_, rfl, World.ownsRow_nil _ _ _ _, Below.refl _ _⟩
  case neg =>
    obtain ⟨i0, hi, hz0, hz1, hz2⟩ := info_parts infoSr
    have hr := fun ty => Lib.run_append_nil_zeros (P := Tryz.prog) w 60 3 ty 9 i0 _ .i64 .i64 Tryz.underlying60 Tryz.underlying3 hi hz0 n (by omega) (by rw [hz1]; decide) (by omega) (by rw [hz2]; omega)
    have hge := grownCap_ge w n 0 9
    have hcm := grownCap_le_maxLen w n 0 9 (by simp only [maxLen]; omega)
    generalize grownCap w n 0 9 = cap at hr hge hcm
    have hcs : (Builtin.zeroCells (Value.cells (.string ⟨#[]⟩)) n ++ Builtin.zeroCells (Value.cells (.string ⟨#[]⟩)) (cap - n)).size = cap * 1 := by
      rw [Array.size_append, size_zeroCells, size_zeroCells]; simp [Value.cells]; omega
    generalize hC : Builtin.zeroCells (Value.cells (.string ⟨#[]⟩)) n ++ Builtin.zeroCells (Value.cells (.string ⟨#[]⟩)) (cap - n) = C at hr hcs
    have HP := hid (World.ownsRow_made (base := w.heap.size) (e := 9) (size := 1) w.drew C cap (Nat.le_refl _) hcm hcs)
    have HB := hid ((Below.refl w.heap.size w).drew.alloc (Nat.le_refl _) (.cells C 9))
    have HR := hid hr
    have hcap : cap ≤ 9223372036854775807 := by simp only [maxLen] at hcm; omega
    have g0 : decide ((n : Int) ≤ 0) = false := decide_eq_false (by omega)
    have g1 : decide (0 < n) = true := decide_eq_true (by omega)
    clear hC hr hi hz0 hz1 hz2 hcm hcs h0
    go_enter Tryz.func163, Tryz.ntmps163
    go_wp2_with (at_builtin; refine Lib.wpList_append_run _ rfl _ _ _ _ rfl _ _ rfl rfl _ _ (HR.out _) ?_)
    go_wp2_with fail
    go_ret
    exact ⟨_, rfl, HP.out, HB.out⟩
set_option maxRecDepth 100000 in
set_option maxHeartbeats 1000000 in
theorem concat_L (sc ns : List ByteArray) (vs vn : Value) (B : Nat) (w : World) (x0 : w.cell? ⟨B, 0, none⟩ = some vs) (x1 : w.cell? ⟨B, 1, none⟩ = some vn) (hL : StrsL w sc vs) (hM : StrsL w ns vn) (hn : sc.length + ns.length ≤ 4194304) :
    Calls Tryz.prog 136 #[.slice (some ⟨B, 0, none⟩) 2 2] w (NewL w (sc ++ ns)) := by
  have HL0 := hid hL
  have HM0 := hid hM
  have HN := hid hn
  have hG := grow_L (sc.length + ns.length) hn w
  have HG := hid hG
  obtain ⟨ax, cx, rfl, -⟩ := hL
  obtain ⟨an, cn, rfl, -⟩ := hM
  have X0 := hid x0
  have X1 := hid x1
  have XL := hid (World.block_lt_of_cell? _ _ x0)
  clear hG
  go_enter Tryz.func136, Tryz.ntmps136
  go_wp2_with fail
  go_loopw [3, 11] (fun s i wr => ∃ j m : Nat, Hid (j = 0 ∧ m = 0 ∨ j = 1 ∧ m = sc.length ∨ j = 2 ∧ m = sc.length + ns.length) ∧ s = .int .i64 m ∧ i = .int .i64 j ∧ w = wr) (fun _ i _ => 2 - (intOf i).toNat)
  case atStart => exact ⟨0, 0, .inl ⟨rfl, rfl⟩, rfl, rfl, rfl⟩
  case round =>
    obtain ⟨j, m, HJ, rfl, rfl, rfl⟩ := hrel
    rcases HJ.out with ⟨hj, hm⟩ | ⟨hj, hm⟩ | ⟨hj, hm⟩
    · subst hj hm
      clear HJ x1
      go_wp2_with fail
      go_roundw
      case rel => exact ⟨1, sc.length, .inr (.inl ⟨rfl, rfl⟩), by go_num, by go_num, by first | rfl | trivial⟩
      case measure => simp [intOf]
    · subst hj hm
      clear HJ x0
      go_wp2_with fail
      go_roundw
      case rel => exact ⟨2, sc.length + ns.length, .inr (.inr ⟨rfl, rfl⟩), by go_num, by go_num, by first | rfl | trivial⟩
      case measure => simp [intOf]
    · subst hj hm
      clear HJ x0 x1
      go_wp2_with fail
      refine HG.out.mono ?_
      rintro e w1 ⟨v1, rfl, ho1, hb1⟩
      have HO1 := hid ho1
      have HB1 := hid hb1
      clear ho1 hb1 HG
      go_wp2_with fail
      go_loopw [6, 27] (fun v i wr => ∃ (j : Nat) (zs : List ByteArray) (v0 : Value), Hid (j = 0 ∧ zs = [] ∨ j = 1 ∧ zs = sc ∨ j = 2 ∧ zs = sc ++ ns) ∧ i = .int .i64 j ∧ v0 = v ∧ Hid (wr.ownsRow w.heap.size 9 1 v0 zs.length (zs.map Value.string)) ∧ Hid (Below w.heap.size w wr)) (fun _ i _ => 2 - (intOf i).toNat)
      case atStart => exact ⟨0, [], v1, .inl ⟨rfl, rfl⟩, rfl, rfl, HO1, HB1⟩
      case round =>
        obtain ⟨j, zs, v0, HJ, rfl, rfl, HO, HB⟩ := hrel
        rcases HJ.out with ⟨hj, hm⟩ | ⟨hj, hm⟩ | ⟨hj, hm⟩
        · subst hj
          have HLr := hid (HL0.out.below HB.out)
          have y0 := (HB.out.cell (p := ⟨B, 0, none⟩) XL.out).trans X0.out
          go_wp2_with (at_builtin; refine wpList_append_names rfl _ _ rfl w.heap.size _ zs sc _ rfl rfl HO.out HLr.out ?c1 ?c2 ?_)
          case c1 => have := HN.out; subst hm; simp; omega
          case c2 => exact HB.out.size
          intro v2 w2 ho2 hg2
          subst hm
          have HO2 := hid ho2
          have HB2 := hid (own_next HB.out HB.out.size HO.out hg2)
          clear ho2 hg2 y0 HJ
          go_wp2_with fail
          go_roundw
          case rel => exact ⟨1, sc, _, .inr (.inl ⟨rfl, rfl⟩), by go_num, rfl, HO2, HB2⟩
          case measure => simp [intOf]
        · subst hj
          have HLr := hid (HM0.out.below HB.out)
          have y0 := (HB.out.cell (p := ⟨B, 1, none⟩) XL.out).trans X1.out
          go_wp2_with (at_builtin; refine wpList_append_names rfl _ _ rfl w.heap.size _ zs ns _ rfl rfl HO.out HLr.out ?c1 ?c2 ?_)
          case c2 => exact HB.out.size
          intro v2 w2 ho2 hg2
          subst hm
          have HO2 := hid ho2
          have HB2 := hid (own_next HB.out HB.out.size HO.out hg2)
          clear ho2 hg2 y0 HJ
          go_wp2_with fail
          go_roundw
          case rel => exact ⟨2, zs ++ ns, _, .inr (.inr ⟨rfl, rfl⟩), by go_num, rfl, hid (by simpa using HO2.out), HB2⟩
          case measure => simp [intOf]
        · subst hj hm
          have HP := hid (show NewL w (sc ++ ns) (.returned v0) wr from ⟨v0, rfl, HO.out, HB.out⟩)
          clear HO HB HJ
          go_wp2_with fail
          go_ret
          exact HP.out
end Go.Proofs.YtgpefnlpbjnjbaaGreat

namespace Go.Proofs.YtgpefnlpbjnjbaaGreat
open Go.ChangeShapes Go.WideShapes Go.ChangeAt Go.RowKit Go.BigFrame
open Go.Sort (grow)
set_option linter.unusedVariables false

/-- Another block than the list's own. -/
def NotOwn (sc : List ByteArray) (vs v : Value) : Prop := 0 < sc.length → ∀ b, vs.ownBlock = some b → v.ownBlock ≠ some b
/-- The list as it is now. -/
def NNow (w0 w : World) (v : Value) (zs : List ByteArray) (v' : Value) (w' : World) : Prop :=
  w'.ownsRow w0.heap.size 9 1 v' zs.length (zs.map Value.string) ∧ Below w0.heap.size w0 w' ∧ w.grownBy w' v.ownBlock ∧ ∀ g, v'.ownBlock = some g → v.ownBlock = some g ∨ w.heap.size ≤ g
def NPost (w0 w : World) (v : Value) (zs : List ByteArray) (e : Ending) (w' : World) : Prop := ∃ v', e = .returned v' ∧ NNow w0 w v zs v' w'
theorem NNow.refl {w0 w : World} {v : Value} {zs : List ByteArray} (ho : w.ownsRow w0.heap.size 9 1 v zs.length (zs.map Value.string)) (hb : Below w0.heap.size w0 w) : NNow w0 w v zs v w := ⟨ho, hb, ⟨rfl, rfl, rfl, Nat.le_refl _, fun _ _ _ => rfl⟩, fun g h => .inl h⟩
theorem NNow.below {w0 w w1 w2 : World} {v v' : Value} {zs : List ByteArray} (h : NNow w0 w v zs v' w1) (k : Below w1.heap.size w1 w2) : NNow w0 w v zs v' w2 :=
  ⟨ownsRow.below h.1 k, h.2.1.trans (k.mono h.2.1.size), ⟨k.os.trans h.2.2.1.os, k.tape.trans h.2.2.1.tape, k.output.trans h.2.2.1.output, Nat.le_trans h.2.2.1.size k.size, fun x hx hn => (k.block x (Nat.lt_of_lt_of_le hx h.2.2.1.size)).trans (h.2.2.1.block x hx hn)⟩, h.2.2.2⟩
theorem NNow.step {w0 w w1 w2 : World} {v v1 v2 : Value} {zs ys : List ByteArray} (h : NNow w0 w v zs v1 w1) (k : NNow w0 w1 v1 ys v2 w2) : NNow w0 w v ys v2 w2 := by
  refine ⟨k.1, k.2.1, ⟨k.2.2.1.os.trans h.2.2.1.os, k.2.2.1.tape.trans h.2.2.1.tape, k.2.2.1.output.trans h.2.2.1.output, Nat.le_trans h.2.2.1.size k.2.2.1.size, fun x hx hn => ?_⟩, fun g hg => ?_⟩
  · refine (k.2.2.1.block x (Nat.lt_of_lt_of_le hx h.2.2.1.size) fun e => ?_).trans (h.2.2.1.block x hx hn)
    rcases h.2.2.2 x e.symm with e' | e'
    · exact hn e'.symm
    · omega
  · rcases k.2.2.2 g hg with e | e
    · exact h.2.2.2 g e
    · exact .inr (Nat.le_trans h.2.2.1.size e)
theorem NNow.from {w0 w w1 w2 : World} {v v2 : Value} {ys : List ByteArray} (k : NNow w0 w1 v ys v2 w2) (h : Below w.heap.size w w1) : NNow w0 w v ys v2 w2 := by
  refine ⟨k.1, k.2.1, ⟨k.2.2.1.os.trans h.os, k.2.2.1.tape.trans h.tape, k.2.2.1.output.trans h.output, Nat.le_trans h.size k.2.2.1.size, fun x hx hn => ?_⟩, fun g hg => ?_⟩
  · exact (k.2.2.1.block x (Nat.lt_of_lt_of_le hx h.size) hn).trans (h.block x hx)
  · rcases k.2.2.2 g hg with e | e
    · exact .inl e
    · exact .inr (Nat.le_trans h.size e)
theorem NPost.from {w0 w w1 w2 : World} {v : Value} {ys : List ByteArray} {e : Ending} (k : NPost w0 w1 v ys e w2) (h : Below w.heap.size w w1) : NPost w0 w v ys e w2 := by
  obtain ⟨v2, rfl, k⟩ := k; exact ⟨v2, rfl, k.from h⟩
theorem NNow.keep {w0 w w' : World} {v v' : Value} {zs xs : List ByteArray} (h : NNow w0 w v zs v' w') (ho : w.ownsRow w0.heap.size 9 1 v xs.length (xs.map Value.string)) : KeepT 9 w w' := KeepT.of_grown ho h.2.2.1
theorem NNow.scope {w0 w w' : World} {v v' : Value} {zs sc : List ByteArray} {vs : Value} (h : NNow w0 w v zs v' w') (hL : StrsL w sc vs) (hN : NotOwn sc vs v) : StrsL w' sc vs ∧ NotOwn sc vs v' := by
  obtain ⟨a, c, rfl, h2, h3, h4⟩ := hL
  refine ⟨⟨a, c, rfl, h2, h3, fun hp => ?_⟩, fun hp b hb hv => ?_⟩
  · obtain ⟨b, o, rfl, hl, hc⟩ := h4 hp
    refine ⟨b, o, rfl, Nat.lt_of_lt_of_le hl h.2.2.1.size, fun i s hi => ?_⟩
    exact (World.cell?_of_block (a := ⟨b, o + i, none⟩) (h.2.2.1.block b hl fun e => hN hp b rfl e.symm)).trans (hc i s hi)
  · obtain ⟨b', o, rfl, hl, hc⟩ := h4 hp
    simp only [Value.ownBlock, Option.some.injEq] at hb
    subst hb
    rcases h.2.2.2 _ hv with e | e
    · exact hN hp b' rfl e
    · omega
theorem NotOwn.fresh {sc : List ByteArray} {vs v : Value} {w w2 : World} {B : Nat} {xs : List ByteArray} (ho : w.ownsRow B 9 1 v xs.length (xs.map Value.string)) (hs : w2.ownsRow w.heap.size 9 1 vs sc.length (sc.map Value.string)) : NotOwn sc vs v := fun _ b h1 h2 => by
  have h3 := (hs.lt b h1).1
  have h4 := (ho.lt b h2).2
  omega
/-- A new list, taken over: nothing is the call's before. -/
theorem NNow.nil {w0 w : World} (hb : Below w0.heap.size w0 w) : NNow w0 w (.slice none 0 0) [] (.slice none 0 0) w := NNow.refl (World.ownsRow_nil _ _ _ _) hb
theorem NNow.one {w0 w w1 w2 : World} {v v2 : Value} {xs : List ByteArray} {n : ByteArray} (hb : Below w0.heap.size w0 w) (ho : w.ownsRow w0.heap.size 9 1 v xs.length (xs.map Value.string)) (h1 : Below w.heap.size w w1)
    (ho2 : w2.ownsRow w0.heap.size 9 1 v2 (xs ++ [n]).length ((xs ++ [n]).map Value.string)) (hg : w1.grownBy w2 v.ownBlock) (hf : ∀ g, v2.ownBlock = some g → v.ownBlock = some g ∨ w1.heap.size ≤ g) : NNow w0 w v (xs ++ [n]) v2 w2 :=
  NNow.from ⟨ho2, (hb.trans (h1.mono hb.size)).grown hg (Nat.le_trans hb.size h1.size) (fun k hk => (ho.lt k hk).1), hg, hf⟩ h1
theorem Tm.good_var0 {u : Int} {n : ByteArray} {t : Ty} {ns : List ByteArray} {ks : List Tm} (h : Tm.good (.mk 1 u n t ns ks) = true) : ks = [] := by
  rw [Tm.good] at h
  simp only [okTm, Bool.and_eq_true] at h
  have h1 := h.1.1
  simp [tmN, inR] at h1
  first | exact h1 | exact List.eq_nil_of_length_eq_zero (by omega) | simpa using h1
theorem Tm.good_kids0 {k u : Int} {n : ByteArray} {t : Ty} {ns : List ByteArray} {ks : List Tm} (h : Tm.good (.mk k u n t ns ks) = true) : Tm.goods ks = true := by
  rw [Tm.good, Bool.and_eq_true, Bool.and_eq_true] at h; exact h.2.2
def FrW (N : Nat) : Prop := ∀ (w0 : World) (k1 : Int) (u1 : Int) (n1 : ByteArray) (tk1 : Int) (tn1 : ByteArray) (tks1 : List Ty) (ns1 : List ByteArray) (ks1 : List Tm) (atks1 : Option Addr) (ctks1 : Nat) (ans1 : Option Addr) (cns1 : Nat) (aks1 : Option Addr) (cks1 : Nat) (b1 o1 : Nat) (sc out : List ByteArray) (vs v : Value) (w : World), Tm.bulk (Tm.mk k1 u1 n1 (Ty.mk tk1 tn1 tks1) ns1 ks1) < N → Tm.bulk (Tm.mk k1 u1 n1 (Ty.mk tk1 tn1 tks1) ns1 ks1) ≤ 1048576 → sc.length + 1 + Tm.bulk (Tm.mk k1 u1 n1 (Ty.mk tk1 tn1 tks1) ns1 ks1) ≤ 4194304 → out.length + 1 + Tm.bulk (Tm.mk k1 u1 n1 (Ty.mk tk1 tn1 tks1) ns1 ks1) ≤ 4194304 → Tm.good (Tm.mk k1 u1 n1 (Ty.mk tk1 tn1 tks1) ns1 ks1) = true → w0.cell? ⟨b1, o1, none⟩ = some (.int .i64 k1) → w0.cell? ⟨b1, o1 + 2, none⟩ = some (.string n1) → w0.cell? ⟨b1, o1 + 6, none⟩ = some (.slice ans1 ns1.length cns1) → w0.cell? ⟨b1, o1 + 7, none⟩ = some (.slice aks1 ks1.length cks1) → RdS w0 (Tm.d (Tm.mk k1 u1 n1 (Ty.mk tk1 tn1 tks1) ns1 ks1)) [.int .i64 k1, .int .i64 u1, .string n1, .int .i64 tk1, .string tn1, .slice atks1 tks1.length ctks1, .slice ans1 ns1.length cns1, .slice aks1 ks1.length cks1] → Below w0.heap.size w0 w → StrsL w sc vs → NotOwn sc vs v → w.ownsRow w0.heap.size 9 1 v out.length (out.map Value.string) →
  Calls Tryz.prog 45 #[.pointer (some ⟨b1, o1, none⟩), vs, v] w (NPost w0 w v (Tm.free (Tm.mk k1 u1 n1 (Ty.mk tk1 tn1 tks1) ns1 ks1) sc out))
set_option maxRecDepth 100000 in
set_option maxHeartbeats 4000000 in
theorem l03Free_step (N : Nat) (ih : FrW N) : FrW (N + 1) := by
  intro w0 k1 u1 n1 tk1 tn1 tks1 ns1 ks1 atks1 ctks1 ans1 cns1 aks1 cks1 b1 o1 sc out vs v w hN hM hsM hoM hg x0 x2 x6 x7 hr hb0 hL hno hown
  have y0 := (hb0.cell (p := ⟨b1, o1, none⟩) (World.block_lt_of_cell? _ _ x0)).trans x0
  have y2 := (hb0.cell (p := ⟨b1, o1 + 2, none⟩) (World.block_lt_of_cell? _ _ x2)).trans x2
  have y7 := (hb0.cell (p := ⟨b1, o1 + 7, none⟩) (World.block_lt_of_cell? _ _ x7)).trans x7
  have hsz := hb0.size
  have HB0 := hid hb0
  have HO := hid hown
  have HL := hid hL
  have HNO := hid hno
  have HLQ := hid (last_L sc vs n1 w hL)
  have HLO := hid (last_L out v n1 w (StrsL.of_own hown))
  have hlh := lastAt_has n1 sc
  have hlo := lastAt_has n1 out
  obtain ⟨ax, cx, rfl, -⟩ := hL
  clear hb0 hown hno
  by_cases h1 : k1 = 1
  case pos =>
    subst h1
    have HZ := hid (show ks1.length = 0 by rw [Tm.good_var0 hg]; rfl)
    have X7 := hid x7
    have X7L := hid (World.block_lt_of_cell? _ _ x7)
    clear x0 x2 x6 x7 hr ih hN hg hM
    by_cases hh : hasStr sc n1 = true
    case pos =>
      have gr : decide (lastAt n1 sc < 0) = false := by rw [hh] at hlh; simp at hlh ⊢; omega
      have HF := hid (Tm.free_has (u := u1) (t := Ty.mk tk1 tn1 tks1) (ns := ns1) (ks := ks1) (out := out) hh)
      clear hh hlh hlo hoM hsM HLO
      generalize lastAt n1 sc = r at gr HLQ
      go_enter Tryz.func45, Tryz.ntmps45
      go_wp2_with fail
      refine HLQ.out.mono ?_
      rintro e w3 ⟨rfl, rfl⟩
      go_wp2_with fail
      go_loopw [2, 7] (fun u n wr => ∃ (j : Nat), j = 0 ∧ n = .int .i64 j ∧ u = v ∧ w = wr) (fun _ n _ => 0)
      case atStart => exact ⟨0, rfl, rfl, rfl, rfl⟩
      case round =>
        obtain ⟨j, hj, rfl, rfl, rfl⟩ := hrel
        have hlt : ¬ j < ks1.length := by have := HZ.out; omega
        go_wp2_with fail
        go_ret
        rw [HF.out]
        exact ⟨_, rfl, NNow.refl HO.out HB0.out⟩
    case neg =>
    have hhf := (Bool.not_eq_true _).mp hh
    have gr : decide (lastAt n1 sc < 0) = true := by rw [hhf] at hlh; simp at hlh ⊢; omega
    clear hh hlh
    generalize lastAt n1 sc = r at gr HLQ
    by_cases hq : hasStr out n1 = true
    case pos =>
      have gq : decide (lastAt n1 out < 0) = false := by rw [hq] at hlo; simp at hlo ⊢; omega
      have HF := hid (Tm.free_out (u := u1) (t := Ty.mk tk1 tn1 tks1) (ns := ns1) (ks := ks1) hhf hq)
      clear hq hlo hhf hoM hsM
      generalize lastAt n1 out = q at gq HLO
      go_enter Tryz.func45, Tryz.ntmps45
      go_wp2_with fail
      refine HLQ.out.mono ?_
      rintro e w3 ⟨rfl, rfl⟩
      go_wp2_with fail
      refine HLO.out.mono ?_
      rintro e w3 ⟨rfl, rfl⟩
      go_wp2_with fail
      go_loopw [2, 7] (fun u n wr => ∃ (j : Nat), j = 0 ∧ n = .int .i64 j ∧ u = v ∧ w = wr) (fun _ n _ => 0)
      case atStart => exact ⟨0, rfl, rfl, rfl, rfl⟩
      case round =>
        obtain ⟨j, hj, rfl, rfl, rfl⟩ := hrel
        have hlt : ¬ j < ks1.length := by have := HZ.out; omega
        go_wp2_with fail
        go_ret
        rw [HF.out]
        exact ⟨_, rfl, NNow.refl HO.out HB0.out⟩
    case neg =>
      have hqf := (Bool.not_eq_true _).mp hq
      have gq : decide (lastAt n1 out < 0) = true := by rw [hqf] at hlo; simp at hlo ⊢; omega
      have HF := hid (Tm.free_new (u := u1) (t := Ty.mk tk1 tn1 tks1) (ns := ns1) (ks := ks1) hhf hqf)
      have HOM := hid hoM
      clear hq hqf hlo hhf hoM hsM
      generalize lastAt n1 out = q at gq HLO
      go_enter Tryz.func45, Tryz.ntmps45
      go_wp2_with fail
      refine HLQ.out.mono ?_
      rintro e w3 ⟨rfl, rfl⟩
      go_wp2_with fail
      refine HLO.out.mono ?_
      rintro e w3 ⟨rfl, rfl⟩
      have HBA := hid ((Below.refl w.heap.size w).alloc (Nat.le_refl _) (.cells #[.string n1] 9))
      go_wp2_with (at_builtin; refine wpList_append_namesF rfl _ _ rfl w0.heap.size _ out [n1] _ rfl rfl (HO.out.alloc _) (StrsL.one w n1 9) (by simp) ?c1 ?c2 ?_)
      case c1 => have := HOM.out; simp; omega
      case c2 => simp; omega
      intro v2 w2 ho2 hg2 hf2
      have HNN := hid (NNow.one HB0.out HO.out HBA.out (by simpa using ho2) hg2 (by simpa using hf2))
      have y7 := (HNN.out.2.1.cell (p := ⟨b1, o1 + 7, none⟩) X7L.out).trans X7.out
      clear ho2 hg2 hf2
      go_wp2_with fail
      go_loopw [2, 7] (fun u n wr => ∃ (j : Nat), j = 0 ∧ n = .int .i64 j ∧ u = v2 ∧ w2 = wr) (fun _ n _ => 0)
      case atStart => exact ⟨0, rfl, rfl, rfl, rfl⟩
      case round =>
        obtain ⟨j, hj, rfl, rfl, rfl⟩ := hrel
        have hlt : ¬ j < ks1.length := by have := HZ.out; omega
        go_wp2_with fail
        go_ret
        rw [HF.out]
        exact ⟨_, rfl, HNN.out⟩
  case neg =>
  have g1 : (k1 == 1) = false := by simp [h1]
  have HF := hid (Tm.free_mk h1 u1 n1 (Ty.mk tk1 tn1 tks1) ns1 ks1 sc out)
  have HGK := hid (Tm.good_kids0 hg)
  have hbk : Tm.bulks ks1 + ns1.length ≤ Tm.bulk (Tm.mk k1 u1 n1 (Ty.mk tk1 tn1 tks1) ns1 ks1) := by have := Sr.bulks_length ns1; simp only [Tm.bulk]; omega
  have hfk := hr.fTm.2.2.2.2.2
  have hfn := hr.fTm.2.2.2.2.1
  obtain ⟨_, _, e, h2, h3, h4⟩ := hfk.eTm
  simp only [Value.slice.injEq, true_and] at e
  obtain ⟨rfl, rfl⟩ := e
  have hbc := Tm.bulks_length ks1
  have hlk : ks1.length ≤ 1048576 := by omega
  have IH := hid ih
  have H4 := hid h4
  have HK := hid hbk
  have HM := hid hM
  have HN := hid hN
  have HFN := hid hfn
  have HSM := hid hsM
  have HOM := hid hoM
  have X0 := hid x0
  have X2 := hid x2
  have X6 := hid x6
  have X7 := hid x7
  have XL := hid (World.block_lt_of_cell? _ _ x7)
  clear ih hr h4 hbk hN hM hsM hoM x0 x2 x6 x7 y2 h1 hbc hfk hfn hlh hlo HLQ HLO hg
  go_enter Tryz.func45, Tryz.ntmps45
  go_wp2_with fail
  go_loopw [2, 7] (fun u n wr => ∃ (j : Nat) (v0 : Value), j ≤ ks1.length ∧ n = .int .i64 j ∧ v0 = u ∧ NNow w0 w v (Tm.frees k1 n1 ns1 0 (ks1.take j) sc out) v0 wr) (fun _ n _ => ks1.length - (intOf n).toNat)
  case atStart => exact ⟨0, _, by omega, rfl, rfl, by simpa [Tm.frees] using NNow.refl HO.out HB0.out⟩
  case round =>
    obtain ⟨j, v0, hj, rfl, rfl, hgn⟩ := hrel
    have hb := hgn.2.1
    have HGN := hid hgn
    have z7 := (hb.cell (p := ⟨b1, o1 + 7, none⟩) XL.out).trans X7.out
    have HBW := hid hb
    clear hgn hb y0 y7
    by_cases hlt : j < ks1.length
    case neg =>
      have hlv : Tm.frees k1 n1 ns1 0 (ks1.take j) sc out = Tm.frees k1 n1 ns1 0 ks1 sc out := by rw [List.take_of_length_le (by omega)]
      have HP := hid (show NPost w0 w v (Tm.free (Tm.mk k1 u1 n1 (Ty.mk tk1 tn1 tks1) ns1 ks1) sc out) (.returned v0) wr from ⟨_, rfl, by rw [HF.out, ← hlv]; exact HGN.out⟩)
      clear hlv
      go_wp2_with fail
      go_ret
      exact HP.out
    case pos =>
      obtain ⟨b, o, rfl, hbl, hall⟩ := H4.out (by omega)
      obtain ⟨t, ht⟩ : ∃ t, ks1[j]? = some t := ⟨_, List.getElem?_eq_getElem hlt⟩
      obtain ⟨k3, u3, n3, ⟨tk3, tn3, tks3⟩, ns3, ks3⟩ := t
      obtain ⟨atks3, ctks3, ans3, cns3, aks3, cks3, q0, q1, q2, q3, q4, q5, q6, q7, hrk⟩ := hall j k3 u3 n3 tk3 tn3 tks3 ns3 ks3 ht
      clear hall H4
      have hbg := Tm.bulk_get ks1 j _ ht
      have hlt2 := Tm.frees_take k1 n1 ns1 ks1 0 j _ sc out ht
      rw [Nat.zero_add] at hlt2
      have hll := Tm.frees_len k1 n1 ns1 0 (ks1.take j) sc out
      have hbt : Tm.bulks (ks1.take j) + 1 + Tm.bulk (Tm.mk k3 u3 n3 (Ty.mk tk3 tn3 tks3) ns3 ks3) ≤ Tm.bulks ks1 := by have h1 := Tm.bulks_take ks1 j _ ht; have h2 := Tm.bulks_le ks1 (j + 1); omega
      have hgk := Tm.goods_get ks1 j _ HGK.out ht
      have hbl2 := boundOf_len k1 n1 ns1 j
      have hbn := fun (W : World) (hW : Below w0.heap.size w0 W) => spec_binds k1 n1 ns1 ans1 cns1 b1 o1 j W ((hW.cell (p := ⟨b1, o1, none⟩) XL.out).trans X0.out) ((hW.cell (p := ⟨b1, o1 + 2, none⟩) XL.out).trans X2.out) ((hW.cell (p := ⟨b1, o1 + 6, none⟩) XL.out).trans X6.out) (HFN.out.below hW)
      have hc := fun vw W hW hs hn ho => IH.out w0 k3 u3 n3 tk3 tn3 tks3 ns3 ks3 atks3 ctks3 ans3 cns3 aks3 cks3 b (o + j * 8) (sc ++ boundOf k1 n1 ns1 j) (Tm.frees k1 n1 ns1 0 (ks1.take j) sc out) vw v0 W (by have := HK.out; have := HN.out; omega) (by have := HK.out; have := HM.out; omega) (by have := HK.out; have := HSM.out; rw [List.length_append]; omega) (by have := HK.out; have := HOM.out; omega) hgk q0 q2 q6 q7 hrk hW hs hn ho
      have hle : sc.length + (boundOf k1 n1 ns1 j).length ≤ 4194304 := by have := HK.out; have := HSM.out; omega
      generalize hbo : boundOf k1 n1 ns1 j = bs at hlt2 hbn hc hle
      generalize hfr : Tm.frees k1 n1 ns1 0 (ks1.take j) sc out = zs at hlt2 HGN hc
      have HSC := hid (HGN.out.scope HL.out HNO.out)
      have HLT := hid hlt2
      have HBN := hid hbn
      have HC := hid hc
      have HLE := hid hle
      have hS : ∀ V : World, Below w0.heap.size w0 V → (Below w0.heap.size w0 V ∧ V.cell? ⟨b1, o1 + 7, none⟩ = some (.slice (some ⟨b, o, none⟩) ks1.length cks1)) := fun V h => ⟨h, (h.cell (p := ⟨b1, o1 + 7, none⟩) XL.out).trans X7.out⟩
      have HS := hid hS
      have hbd0 := (Below.refl wr.heap.size wr).drew
      have HBD0 := hid hbd0
      have hbS : Below w0.heap.size w0 wr.drew := HBW.out.drew
      have HSD := hid (hS _ hbS)
      have HOD := hid (ownsRow.below HGN.out.1 hbd0)
      have HSCD := hid (HSC.out.1.below hbd0)
      clear hlt2 hbn hc ht hrk q0 q1 q2 q3 q4 q5 q6 q7 hbg hll hbt hbo hfr hgk hbl2 hle hS hbd0
      go_wp2_with fail
      go_region_held3 (fun V => Below w0.heap.size w0 V ∧ V.cell? ⟨b1, o1 + 7, none⟩ = some (.slice (some ⟨b, o, none⟩) ks1.length cks1))
        (first | assumption | exact HSD.out | exact HS.out _ hbS | go_keep)
        (first
          | (go_at_call 86; (with_reducible refine (HBN.out _ ?_).mono ?_); (exact (‹Below w0.heap.size w0 _ ∧ _›).1); rintro e W2 ⟨vb, rfl, hsb, hb2⟩; have HSB := hid hsb; have HB2 := hid hb2; have HSC2 := hid (HSCD.out.below hb2); have HO2 := hid (ownsRow.below HOD.out hb2); have hbS := (‹Below w0.heap.size w0 _ ∧ _›).1.trans (hb2.mono (‹Below w0.heap.size w0 _ ∧ _›).1.size); clear hsb hb2)
          | (go_at_call 85; (with_reducible refine (with_L _ _ _ _ _ HSC2.out HSB.out HLE.out).mono ?_); rintro e W3 ⟨vw, rfl, how, hb3⟩; have HOW := hid how; have HB3 := hid hb3; have HO3 := hid (ownsRow.below HO2.out hb3); have hbS := (‹Below w0.heap.size w0 W2 ∧ _›).1.trans (hb3.mono (‹Below w0.heap.size w0 W2 ∧ _›).1.size); clear how hb3)
          | (go_at_call 45; (with_reducible refine (HC.out _ _ ?_ ?_ ?_ ?_).mono ?_); (exact (‹Below w0.heap.size w0 W3 ∧ _›).1); (exact StrsL.of_own HOW.out); (exact NotOwn.fresh HO2.out HOW.out); (exact HO3.out); rintro e Vz ⟨vz, rfl, hgn3⟩; have HG3 := hid hgn3; have hbS := hgn3.2.1; clear hgn3))
      clear hbS
      go_wp2_with fail
      go_roundw
      case rel => exact ⟨j + 1, _, by omega, by go_num, rfl, by rw [HLT.out]; exact (((HGN.out.below HBD0.out).below HB2.out).below HB3.out).step HG3.out⟩
      case measure => simp [intOf]; omega
theorem l03Free_all : ∀ N, FrW N
  | 0 => fun _ _ _ _ _ _ _ _ _ _ _ _ _ _ _ _ _ _ _ _ _ _  h => absurd h (by omega)
  | N + 1 => l03Free_step N (l03Free_all N)
end Go.Proofs.YtgpefnlpbjnjbaaGreat

namespace Go.Proofs.YtgpefnlpbjnjbaaGreat
open Go.ChangeShapes Go.WideShapes Go.ChangeAt Go.RowKit Go.BigFrame
open Go.Sort (grow)
set_option linter.unusedVariables false

theorem two_new0 (w : World) (a b : Value) (t : TypeId) : (w.alloc (.cells #[a, b] t)).cell? ⟨w.heap.size, 0, none⟩ = some a := by
  have hh : (w.alloc (.cells #[a, b] t (0, 0))).heap[w.heap.size]? = some (.cells #[a, b] t (0, 0)) := heap_alloc_new w _
  simp only [World.cell?, hh]
  simp
theorem two_new1 (w : World) (a b : Value) (t : TypeId) : (w.alloc (.cells #[a, b] t)).cell? ⟨w.heap.size, 1, none⟩ = some b := by
  have hh : (w.alloc (.cells #[a, b] t (0, 0))).heap[w.heap.size]? = some (.cells #[a, b] t (0, 0)) := heap_alloc_new w _
  simp only [World.cell?, hh]
  simp
def FriW (N : Nat) : Prop := ∀ (w0 : World) (k1 : Int) (u1 : Int) (n1 : ByteArray) (tk1 : Int) (tn1 : ByteArray) (tks1 : List Ty) (ns1 : List ByteArray) (ks1 : List Tm) (atks1 : Option Addr) (ctks1 : Nat) (ans1 : Option Addr) (cns1 : Nat) (aks1 : Option Addr) (cks1 : Nat) (sc out : List ByteArray) (vs v : Value) (w : World), Tm.bulk (Tm.mk k1 u1 n1 (Ty.mk tk1 tn1 tks1) ns1 ks1) < N → Tm.bulk (Tm.mk k1 u1 n1 (Ty.mk tk1 tn1 tks1) ns1 ks1) ≤ 1048576 → sc.length + 1 + Tm.bulk (Tm.mk k1 u1 n1 (Ty.mk tk1 tn1 tks1) ns1 ks1) ≤ 4194304 → out.length + 1 + Tm.bulk (Tm.mk k1 u1 n1 (Ty.mk tk1 tn1 tks1) ns1 ks1) ≤ 4194304 → Tm.good (Tm.mk k1 u1 n1 (Ty.mk tk1 tn1 tks1) ns1 ks1) = true → RdS w0 (Tm.d (Tm.mk k1 u1 n1 (Ty.mk tk1 tn1 tks1) ns1 ks1)) [.int .i64 k1, .int .i64 u1, .string n1, .int .i64 tk1, .string tn1, .slice atks1 tks1.length ctks1, .slice ans1 ns1.length cns1, .slice aks1 ks1.length cks1] → Below w0.heap.size w0 w → StrsL w sc vs → NotOwn sc vs v → w.ownsRow w0.heap.size 9 1 v out.length (out.map Value.string) →
  Calls Tryz.prog 93 #[.agg #[.int .i64 k1, .int .i64 u1, .string n1, .int .i64 tk1, .string tn1, .slice atks1 tks1.length ctks1, .slice ans1 ns1.length cns1, .slice aks1 ks1.length cks1], vs, v] w (NPost w0 w v (Tm.free (Tm.mk k1 u1 n1 (Ty.mk tk1 tn1 tks1) ns1 ks1) sc out))
set_option maxRecDepth 100000 in
set_option maxHeartbeats 4000000 in
theorem addFree_step (N : Nat) (ih : FriW N) : FriW (N + 1) := by
  intro w0 k1 u1 n1 tk1 tn1 tks1 ns1 ks1 atks1 ctks1 ans1 cns1 aks1 cks1 sc out vs v w hN hM hsM hoM hg hr hb0 hL hno hown
  have hsz := hb0.size
  have HB0 := hid hb0
  have HO := hid hown
  have HL := hid hL
  have HNO := hid hno
  have hbx : Below w.heap.size w (w.alloc (.cells #[.int .i64 k1, .int .i64 u1, .string n1, .int .i64 tk1, .string tn1, .slice atks1 tks1.length ctks1, .slice ans1 ns1.length cns1, .slice aks1 ks1.length cks1] 63)) := (Below.refl _ _).alloc (Nat.le_refl _) _
  have HBX := hid hbx
  have HLQ := hid (has_L sc vs n1 _ (hL.below hbx))
  have HLO := hid (has_L out v n1 _ ((StrsL.of_own hown).below hbx))
  obtain ⟨ax, cx, rfl, -⟩ := hL
  clear hb0 hown hno hbx
  by_cases h1 : k1 = 1
  case pos =>
    subst h1
    have HZ := hid (show ks1.length = 0 by rw [Tm.good_var0 hg]; rfl)
    clear hr ih hN hg hM
    by_cases hh : hasStr sc n1 = true
    case pos =>
      have HF := hid (Tm.free_has (u := u1) (t := Ty.mk tk1 tn1 tks1) (ns := ns1) (ks := ks1) (out := out) hh)
      rw [hh] at HLQ
      clear hh hoM hsM HLO
      go_enter Tryz.func93, Tryz.ntmps93
      go_wp2_with fail
      refine HLQ.out.mono ?_
      rintro e w3 ⟨rfl, rfl⟩
      go_wp2_with fail
      go_loopw [2, 7, 8, 34] (fun u _ _ n wr => ∃ (j : Nat), j = 0 ∧ u = v ∧ n = .int .i64 j ∧ wr = w.alloc (.cells #[.int .i64 1, .int .i64 u1, .string n1, .int .i64 tk1, .string tn1, .slice atks1 tks1.length ctks1, .slice ans1 ns1.length cns1, .slice aks1 ks1.length cks1] 63)) (fun _ _ _ n _ => 0)
      case atStart => exact ⟨0, rfl, rfl, rfl, rfl⟩
      case round =>
        obtain ⟨j, hj, rfl, rfl, rfl⟩ := hrel
        have hlt : ¬ j < ks1.length := by have := HZ.out; omega
        go_wp2_with fail
        go_ret
        rw [HF.out]
        exact ⟨_, rfl, (NNow.refl HO.out HB0.out).below HBX.out⟩
    case neg =>
    have hhf := (Bool.not_eq_true _).mp hh
    rw [hhf] at HLQ
    clear hh
    by_cases hq : hasStr out n1 = true
    case pos =>
      have HF := hid (Tm.free_out (u := u1) (t := Ty.mk tk1 tn1 tks1) (ns := ns1) (ks := ks1) hhf hq)
      rw [hq] at HLO
      clear hq hhf hoM hsM
      go_enter Tryz.func93, Tryz.ntmps93
      go_wp2_with fail
      refine HLQ.out.mono ?_
      rintro e w3 ⟨rfl, rfl⟩
      go_wp2_with fail
      refine HLO.out.mono ?_
      rintro e w3 ⟨rfl, rfl⟩
      go_wp2_with fail
      go_loopw [2, 7, 8, 34] (fun u _ _ n wr => ∃ (j : Nat), j = 0 ∧ u = v ∧ n = .int .i64 j ∧ wr = w.alloc (.cells #[.int .i64 1, .int .i64 u1, .string n1, .int .i64 tk1, .string tn1, .slice atks1 tks1.length ctks1, .slice ans1 ns1.length cns1, .slice aks1 ks1.length cks1] 63)) (fun _ _ _ n _ => 0)
      case atStart => exact ⟨0, rfl, rfl, rfl, rfl⟩
      case round =>
        obtain ⟨j, hj, rfl, rfl, rfl⟩ := hrel
        have hlt : ¬ j < ks1.length := by have := HZ.out; omega
        go_wp2_with fail
        go_ret
        rw [HF.out]
        exact ⟨_, rfl, (NNow.refl HO.out HB0.out).below HBX.out⟩
    case neg =>
      have hqf := (Bool.not_eq_true _).mp hq
      have HF := hid (Tm.free_new (u := u1) (t := Ty.mk tk1 tn1 tks1) (ns := ns1) (ks := ks1) hhf hqf)
      rw [hqf] at HLO
      have HOM := hid hoM
      clear hq hqf hhf hoM hsM
      have h1n := StrsL.one (w.alloc (.cells #[.int .i64 1, .int .i64 u1, .string n1, .int .i64 tk1, .string tn1, .slice atks1 tks1.length ctks1, .slice ans1 ns1.length cns1, .slice aks1 ks1.length cks1] 63)) n1 9
      rw [World.size_alloc] at h1n
      have H1N := hid h1n
      have HBA := hid (HBX.out.alloc HBX.out.size (.cells #[.string n1] 9))
      clear h1n
      go_enter Tryz.func93, Tryz.ntmps93
      go_wp2_with fail
      refine HLQ.out.mono ?_
      rintro e w3 ⟨rfl, rfl⟩
      go_wp2_with fail
      refine HLO.out.mono ?_
      rintro e w3 ⟨rfl, rfl⟩
      go_wp2_with (at_builtin; refine wpList_append_namesF rfl _ _ rfl w0.heap.size _ out [n1] _ rfl rfl ((HO.out.alloc _).alloc _) H1N.out (by simp) ?c1 ?c2 ?_)
      case c1 => have := HOM.out; simp; omega
      case c2 => simp; omega
      intro v2 w2 ho2 hg2 hf2
      have HNN := hid (NNow.one HB0.out HO.out HBA.out (by simpa using ho2) hg2 (by simpa using hf2))
      clear ho2 hg2 hf2
      go_wp2_with fail
      go_ret
      rw [HF.out]
      exact ⟨_, rfl, HNN.out⟩
  case neg =>
  have g1 : (k1 == 1) = false := by simp [h1]
  have HF := hid (Tm.free_mk h1 u1 n1 (Ty.mk tk1 tn1 tks1) ns1 ks1 sc out)
  have HGK := hid (Tm.good_kids0 hg)
  have hbk : Tm.bulks ks1 + ns1.length ≤ Tm.bulk (Tm.mk k1 u1 n1 (Ty.mk tk1 tn1 tks1) ns1 ks1) := by have := Sr.bulks_length ns1; simp only [Tm.bulk]; omega
  have hfk := hr.fTm.2.2.2.2.2
  have hfn := hr.fTm.2.2.2.2.1
  obtain ⟨_, _, e, h2, h3, h4⟩ := hfk.eTm
  simp only [Value.slice.injEq, true_and] at e
  obtain ⟨rfl, rfl⟩ := e
  have hbc := Tm.bulks_length ks1
  have hlk : ks1.length ≤ 1048576 := by omega
  have IH := hid ih
  have H4 := hid h4
  have HK := hid hbk
  have HM := hid hM
  have HN := hid hN
  have HFN := hid hfn
  have HSM := hid hsM
  have HOM := hid hoM
  clear ih hr h4 hbk hN hM hsM hoM h1 hbc hfk hfn HLQ HLO hg
  go_enter Tryz.func93, Tryz.ntmps93
  go_wp2_with fail
  go_loopw [2, 7, 8, 34] (fun u _ _ n wr => ∃ (j : Nat) (v0 : Value), j ≤ ks1.length ∧ n = .int .i64 j ∧ v0 = u ∧ NNow w0 (w.alloc (.cells #[.int .i64 k1, .int .i64 u1, .string n1, .int .i64 tk1, .string tn1, .slice atks1 tks1.length ctks1, .slice ans1 ns1.length cns1, .slice aks1 ks1.length cks1] 63)) v (Tm.frees k1 n1 ns1 0 (ks1.take j) sc out) v0 wr) (fun _ _ _ n _ => ks1.length - (intOf n).toNat)
  case atStart => exact ⟨0, _, by omega, rfl, rfl, by simpa [Tm.frees] using NNow.refl (HO.out.alloc _) (HB0.out.alloc hsz _)⟩
  case round =>
    obtain ⟨j, v0, hj, rfl, rfl, hgn⟩ := hrel
    have hb := hgn.2.1
    have HGN := hid hgn
    have hcb := hgn.keep (HO.out.alloc _) w.heap.size #[.int .i64 k1, .int .i64 u1, .string n1, .int .i64 tk1, .string tn1, .slice atks1 tks1.length ctks1, .slice ans1 ns1.length cns1, .slice aks1 ks1.length cks1] 63 (0, 0) (heap_alloc_new w _) (by decide)
    have hcl := (Array.getElem?_eq_some_iff.1 hcb).1
    have HBW := hid hb
    have HCB := hid hcb
    clear hgn hb hcb
    by_cases hlt : j < ks1.length
    case neg =>
      have hlv : Tm.frees k1 n1 ns1 0 (ks1.take j) sc out = Tm.frees k1 n1 ns1 0 ks1 sc out := by rw [List.take_of_length_le (by omega)]
      have HP := hid (show NPost w0 w v (Tm.free (Tm.mk k1 u1 n1 (Ty.mk tk1 tn1 tks1) ns1 ks1) sc out) (.returned v0) wr from NPost.from ⟨_, rfl, by rw [HF.out, ← hlv]; exact HGN.out⟩ HBX.out)
      clear hlv
      go_wp2_with fail
      go_ret
      exact HP.out
    case pos =>
      obtain ⟨b, o, rfl, hbl, hall⟩ := H4.out (by omega)
      obtain ⟨t, ht⟩ : ∃ t, ks1[j]? = some t := ⟨_, List.getElem?_eq_getElem hlt⟩
      obtain ⟨k3, u3, n3, ⟨tk3, tn3, tks3⟩, ns3, ks3⟩ := t
      obtain ⟨atks3, ctks3, ans3, cns3, aks3, cks3, q0, q1, q2, q3, q4, q5, q6, q7, hrk⟩ := hall j k3 u3 n3 tk3 tn3 tks3 ns3 ks3 ht
      clear hall H4
      have hbg := Tm.bulk_get ks1 j _ ht
      have hlt2 := Tm.frees_take k1 n1 ns1 ks1 0 j _ sc out ht
      rw [Nat.zero_add] at hlt2
      have hll := Tm.frees_len k1 n1 ns1 0 (ks1.take j) sc out
      have hbt : Tm.bulks (ks1.take j) + 1 + Tm.bulk (Tm.mk k3 u3 n3 (Ty.mk tk3 tn3 tks3) ns3 ks3) ≤ Tm.bulks ks1 := by have h1 := Tm.bulks_take ks1 j _ ht; have h2 := Tm.bulks_le ks1 (j + 1); omega
      have hgk := Tm.goods_get ks1 j _ HGK.out ht
      have hbl2 := boundOf_len k1 n1 ns1 j
      have hbk1 : Below wr.heap.size wr (wr.alloc (.cells #[.int .i64 k3, .int .i64 u3, .string n3, .int .i64 tk3, .string tn3, .slice atks3 tks3.length ctks3, .slice ans3 ns3.length cns3, .slice aks3 ks3.length cks3] 63)) := (Below.refl _ _).alloc (Nat.le_refl _) _
      have hbA0 := HBW.out.trans (hbk1.mono HBW.out.size)
      have HKB := hid (show (wr.alloc (.cells #[.int .i64 k3, .int .i64 u3, .string n3, .int .i64 tk3, .string tn3, .slice atks3 tks3.length ctks3, .slice ans3 ns3.length cns3, .slice aks3 ks3.length cks3] 63)).heap[w.heap.size]? = some (.cells #[.int .i64 k1, .int .i64 u1, .string n1, .int .i64 tk1, .string tn1, .slice atks1 tks1.length ctks1, .slice ans1 ns1.length cns1, .slice (some ⟨b, o, none⟩) ks1.length cks1] 63) from (Below.heap_alloc wr (.cells #[.int .i64 k3, .int .i64 u3, .string n3, .int .i64 tk3, .string tn3, .slice atks3 tks3.length ctks3, .slice ans3 ns3.length cns3, .slice aks3 ks3.length cks3] 63) _ hcl).trans HCB.out)
      have HKK := hid (heap_alloc_new wr (.cells #[.int .i64 k3, .int .i64 u3, .string n3, .int .i64 tk3, .string tn3, .slice atks3 tks3.length ctks3, .slice ans3 ns3.length cns3, .slice aks3 ks3.length cks3] 63))
      have hbn := fun (W : World) (hW : Below w0.heap.size w0 W) => impl_bound k1 u1 n1 tk1 tn1 tks1 ns1 ks1 atks1 ctks1 ans1 cns1 (some ⟨b, o, none⟩) cks1 j W (HFN.out.below hW)
      have hc := fun vw W hW hs hn ho => IH.out w0 k3 u3 n3 tk3 tn3 tks3 ns3 ks3 atks3 ctks3 ans3 cns3 aks3 cks3 (sc ++ boundOf k1 n1 ns1 j) (Tm.frees k1 n1 ns1 0 (ks1.take j) sc out) vw v0 W (by have := HK.out; have := HN.out; omega) (by have := HK.out; have := HM.out; omega) (by have := HK.out; have := HSM.out; rw [List.length_append]; omega) (by have := HK.out; have := HOM.out; omega) hgk hrk hW hs hn ho
      have hle : sc.length + (boundOf k1 n1 ns1 j).length ≤ 4194304 := by have := HK.out; have := HSM.out; omega
      have hsc := HGN.out.scope (HL.out.below HBX.out) HNO.out
      generalize hbo : boundOf k1 n1 ns1 j = bs at hlt2 hbn hc hle
      generalize hfr : Tm.frees k1 n1 ns1 0 (ks1.take j) sc out = zs at hlt2 HGN hc
      have HLT := hid hlt2
      have HBN := hid hbn
      have HC := hid hc
      have HLE := hid hle
      have hS : ∀ V : World, Below w0.heap.size w0 V → V.heap[w.heap.size]? = some (.cells #[.int .i64 k1, .int .i64 u1, .string n1, .int .i64 tk1, .string tn1, .slice atks1 tks1.length ctks1, .slice ans1 ns1.length cns1, .slice (some ⟨b, o, none⟩) ks1.length cks1] 63) → V.heap[wr.heap.size]? = some (.cells #[.int .i64 k3, .int .i64 u3, .string n3, .int .i64 tk3, .string tn3, .slice atks3 tks3.length ctks3, .slice ans3 ns3.length cns3, .slice aks3 ks3.length cks3] 63) → (Below w0.heap.size w0 V ∧ V.heap[w.heap.size]? = some (.cells #[.int .i64 k1, .int .i64 u1, .string n1, .int .i64 tk1, .string tn1, .slice atks1 tks1.length ctks1, .slice ans1 ns1.length cns1, .slice (some ⟨b, o, none⟩) ks1.length cks1] 63) ∧ V.heap[wr.heap.size]? = some (.cells #[.int .i64 k3, .int .i64 u3, .string n3, .int .i64 tk3, .string tn3, .slice atks3 tks3.length ctks3, .slice ans3 ns3.length cns3, .slice aks3 ks3.length cks3] 63) ∧ V.cell? ⟨w.heap.size, 0, none⟩ = some (.int .i64 k1) ∧ V.cell? ⟨w.heap.size, 1, none⟩ = some (.int .i64 u1) ∧ V.cell? ⟨w.heap.size, 2, none⟩ = some (.string n1) ∧ V.cell? ⟨w.heap.size, 3, none⟩ = some (.int .i64 tk1) ∧ V.cell? ⟨w.heap.size, 4, none⟩ = some (.string tn1) ∧ V.cell? ⟨w.heap.size, 5, none⟩ = some (.slice atks1 tks1.length ctks1) ∧ V.cell? ⟨w.heap.size, 6, none⟩ = some (.slice ans1 ns1.length cns1) ∧ V.cell? ⟨w.heap.size, 7, none⟩ = some (.slice (some ⟨b, o, none⟩) ks1.length cks1) ∧ V.cell? ⟨wr.heap.size, 0, none⟩ = some (.int .i64 k3) ∧ V.cell? ⟨wr.heap.size, 1, none⟩ = some (.int .i64 u3) ∧ V.cell? ⟨wr.heap.size, 2, none⟩ = some (.string n3) ∧ V.cell? ⟨wr.heap.size, 3, none⟩ = some (.int .i64 tk3) ∧ V.cell? ⟨wr.heap.size, 4, none⟩ = some (.string tn3) ∧ V.cell? ⟨wr.heap.size, 5, none⟩ = some (.slice atks3 tks3.length ctks3) ∧ V.cell? ⟨wr.heap.size, 6, none⟩ = some (.slice ans3 ns3.length cns3) ∧ V.cell? ⟨wr.heap.size, 7, none⟩ = some (.slice aks3 ks3.length cks3)) := fun V h1 h2 h3 => ⟨h1, h2, h3, heap_cell h2 rfl, heap_cell h2 rfl, heap_cell h2 rfl, heap_cell h2 rfl, heap_cell h2 rfl, heap_cell h2 rfl, heap_cell h2 rfl, heap_cell h2 rfl, heap_cell h3 rfl, heap_cell h3 rfl, heap_cell h3 rfl, heap_cell h3 rfl, heap_cell h3 rfl, heap_cell h3 rfl, heap_cell h3 rfl, heap_cell h3 rfl⟩
      have HS := hid hS
      have hbd0 := hbk1.drew
      have HBD0 := hid hbd0
      have hbS : Below w0.heap.size w0 (wr.alloc (.cells #[.int .i64 k3, .int .i64 u3, .string n3, .int .i64 tk3, .string tn3, .slice atks3 tks3.length ctks3, .slice ans3 ns3.length cns3, .slice aks3 ks3.length cks3] 63)).drew := hbA0.drew
      have hcS : (wr.alloc (.cells #[.int .i64 k3, .int .i64 u3, .string n3, .int .i64 tk3, .string tn3, .slice atks3 tks3.length ctks3, .slice ans3 ns3.length cns3, .slice aks3 ks3.length cks3] 63)).drew.heap[w.heap.size]? = some (.cells #[.int .i64 k1, .int .i64 u1, .string n1, .int .i64 tk1, .string tn1, .slice atks1 tks1.length ctks1, .slice ans1 ns1.length cns1, .slice (some ⟨b, o, none⟩) ks1.length cks1] 63) := HKB.out
      have hkS : (wr.alloc (.cells #[.int .i64 k3, .int .i64 u3, .string n3, .int .i64 tk3, .string tn3, .slice atks3 tks3.length ctks3, .slice ans3 ns3.length cns3, .slice aks3 ks3.length cks3] 63)).drew.heap[wr.heap.size]? = some (.cells #[.int .i64 k3, .int .i64 u3, .string n3, .int .i64 tk3, .string tn3, .slice atks3 tks3.length ctks3, .slice ans3 ns3.length cns3, .slice aks3 ks3.length cks3] 63) := HKK.out
      have HSD := hid (hS _ hbS hcS hkS)
      have HOD := hid (ownsRow.below HGN.out.1 hbd0)
      have HSCD := hid (hsc.1.below hbd0)
      obtain ⟨-, -, -, s0, s1, s2, s3, s4, s5, s6, s7, s8, s9, s10, s11, s12, s13, s14, s15⟩ := hS _ hbS hcS hkS
      have d0 := (HBW.out.cell (p := ⟨b, o + j * 8, none⟩) hbl).trans q0
      have d1 := (HBW.out.cell (p := ⟨b, o + j * 8 + 1, none⟩) hbl).trans q1
      have d2 := (HBW.out.cell (p := ⟨b, o + j * 8 + 2, none⟩) hbl).trans q2
      have d3 := (HBW.out.cell (p := ⟨b, o + j * 8 + 3, none⟩) hbl).trans q3
      have d4 := (HBW.out.cell (p := ⟨b, o + j * 8 + 4, none⟩) hbl).trans q4
      have d5 := (HBW.out.cell (p := ⟨b, o + j * 8 + 5, none⟩) hbl).trans q5
      have d6 := (HBW.out.cell (p := ⟨b, o + j * 8 + 6, none⟩) hbl).trans q6
      have d7 := (HBW.out.cell (p := ⟨b, o + j * 8 + 7, none⟩) hbl).trans q7
      have e0 := heap_cell HKB.out (j := 0) rfl
      have e1 := heap_cell HKB.out (j := 1) rfl
      have e2 := heap_cell HKB.out (j := 2) rfl
      have e3 := heap_cell HKB.out (j := 3) rfl
      have e4 := heap_cell HKB.out (j := 4) rfl
      have e5 := heap_cell HKB.out (j := 5) rfl
      have e6 := heap_cell HKB.out (j := 6) rfl
      have e7 := heap_cell HKB.out (j := 7) rfl
      clear hlt2 hbn hc ht hrk q0 q1 q2 q3 q4 q5 q6 q7 hbg hll hbt hbo hfr hgk hbl2 hle hS hbd0 hbk1 hbA0 hcl hsc
      go_wp2_with fail
      go_region_held3 (fun V => (Below w0.heap.size w0 V ∧ V.heap[w.heap.size]? = some (.cells #[.int .i64 k1, .int .i64 u1, .string n1, .int .i64 tk1, .string tn1, .slice atks1 tks1.length ctks1, .slice ans1 ns1.length cns1, .slice (some ⟨b, o, none⟩) ks1.length cks1] 63) ∧ V.heap[wr.heap.size]? = some (.cells #[.int .i64 k3, .int .i64 u3, .string n3, .int .i64 tk3, .string tn3, .slice atks3 tks3.length ctks3, .slice ans3 ns3.length cns3, .slice aks3 ks3.length cks3] 63) ∧ V.cell? ⟨w.heap.size, 0, none⟩ = some (.int .i64 k1) ∧ V.cell? ⟨w.heap.size, 1, none⟩ = some (.int .i64 u1) ∧ V.cell? ⟨w.heap.size, 2, none⟩ = some (.string n1) ∧ V.cell? ⟨w.heap.size, 3, none⟩ = some (.int .i64 tk1) ∧ V.cell? ⟨w.heap.size, 4, none⟩ = some (.string tn1) ∧ V.cell? ⟨w.heap.size, 5, none⟩ = some (.slice atks1 tks1.length ctks1) ∧ V.cell? ⟨w.heap.size, 6, none⟩ = some (.slice ans1 ns1.length cns1) ∧ V.cell? ⟨w.heap.size, 7, none⟩ = some (.slice (some ⟨b, o, none⟩) ks1.length cks1) ∧ V.cell? ⟨wr.heap.size, 0, none⟩ = some (.int .i64 k3) ∧ V.cell? ⟨wr.heap.size, 1, none⟩ = some (.int .i64 u3) ∧ V.cell? ⟨wr.heap.size, 2, none⟩ = some (.string n3) ∧ V.cell? ⟨wr.heap.size, 3, none⟩ = some (.int .i64 tk3) ∧ V.cell? ⟨wr.heap.size, 4, none⟩ = some (.string tn3) ∧ V.cell? ⟨wr.heap.size, 5, none⟩ = some (.slice atks3 tks3.length ctks3) ∧ V.cell? ⟨wr.heap.size, 6, none⟩ = some (.slice ans3 ns3.length cns3) ∧ V.cell? ⟨wr.heap.size, 7, none⟩ = some (.slice aks3 ks3.length cks3)))
        (first | assumption | exact HSD.out | exact HS.out _ hbS hcS hkS | exact HS.out _ hbA hcA hkA | go_keep)
        (first
          | (go_at_call 137; (with_reducible refine (HBN.out _ hbS).mono ?_); rintro e W2 ⟨vb, rfl, hsb, hb2⟩; have hsb' := hsb; obtain ⟨ab, cb, rfl, -⟩ := hsb'; have hb2S := hbS.trans (hb2.mono hbS.size); have hb2C := (hb2.block _ (Array.getElem?_eq_some_iff.1 hcS).1).trans hcS; have hb2K := (hb2.block _ (Array.getElem?_eq_some_iff.1 hkS).1).trans hkS; clear hbS hcS hkS; have hbS := hb2S; have hcS := hb2C; have hkS := hb2K; clear hb2S hb2C hb2K; have hal := (Below.refl W2.heap.size W2).alloc (Nat.le_refl _) (.cells #[.slice ax sc.length cx, .slice ab bs.length cb] 60); have hbA := hbS.trans (hal.mono hbS.size); have hcA := (hal.block _ (Array.getElem?_eq_some_iff.1 hcS).1).trans hcS; have hkA := (hal.block _ (Array.getElem?_eq_some_iff.1 hkS).1).trans hkS; have HB2 := hid (hb2.trans (hal.mono hb2.size)); have HO2 := hid (ownsRow.below (ownsRow.below HOD.out hb2) hal); have HCAT := hid (concat_L sc bs _ (.slice ab bs.length cb) W2.heap.size _ (two_new0 W2 (.slice ax sc.length cx) (.slice ab bs.length cb) 60) (two_new1 W2 (.slice ax sc.length cx) (.slice ab bs.length cb) 60) ((HSCD.out.below hb2).below hal) (hsb.below hal) HLE.out); clear hsb hb2 hal)
          | (go_at_call 136; (with_reducible refine HCAT.out.mono ?_); rintro e W3 ⟨vw, rfl, how, hb3⟩; have HOW := hid how; have HB3 := hid hb3; have HO3 := hid (ownsRow.below HO2.out hb3); have HNF := hid (NotOwn.fresh HO2.out how); clear hbS hcS hkS; have hbS := hbA.trans (hb3.mono hbA.size); have hcS := (hb3.block _ (Array.getElem?_eq_some_iff.1 hcA).1).trans hcA; have hkS := (hb3.block _ (Array.getElem?_eq_some_iff.1 hkA).1).trans hkA; clear how hb3 hbA hcA hkA HCAT)
          | (go_at_call 93; (with_reducible refine (HC.out _ _ hbS ?_ ?_ ?_).mono ?_); (exact StrsL.of_own HOW.out); (exact HNF.out); (exact HO3.out); rintro e Vz ⟨vz, rfl, hgn3⟩; have HG3 := hid hgn3; have hcZ := hgn3.keep HO3.out _ _ _ _ hcS (by decide); have hkZ := hgn3.keep HO3.out _ _ _ _ hkS (by decide); clear hbS hcS hkS; have hbS := hgn3.2.1; have hcS := hcZ; have hkS := hkZ; clear hgn3 hcZ hkZ))
      clear hbS hcS hkS
      go_wp2_with fail
      go_roundw
      case rel => exact ⟨j + 1, _, by omega, by go_num, rfl, by rw [HLT.out]; exact (((HGN.out.below HBD0.out).below HB2.out).below HB3.out).step HG3.out⟩
      case measure => simp [intOf]; omega
theorem addFree_all : ∀ N, FriW N
  | 0 => fun _ _ _ _ _ _ _ _ _ _ _ _ _ _ _ _ _ _ _ _  h => absurd h (by omega)
  | N + 1 => addFree_step N (addFree_all N)
end Go.Proofs.YtgpefnlpbjnjbaaGreat

namespace Go.Proofs.YtgpefnlpbjnjbaaGreat
open Go.ChangeShapes Go.WideShapes Go.ChangeAt Go.RowKit Go.BigFrame
open Go.Sort (grow)
set_option linter.unusedVariables false

theorem Sr.rdall {w : World} : ∀ (L : List ByteArray), (∀ x ∈ L, x.size ≤ 9223372036854775807) → RdAll w (Sr.ds L) (L.map Value.string) []
  | [], _ => RdAll.nil
  | x :: L, h => by
    have := (RdAll.one (w := w) (Rd.str_mk (h x (by simp)))).append (Sr.rdall L fun y hy => h y (by simp [hy]))
    simpa [Sr.ds, Sr.d] using this
theorem ownsRow.rd_strs {B : Nat} {w' : World} {v : Value} {xs : List ByteArray} (h : w'.ownsRow B 9 1 v xs.length (xs.map Value.string)) (hL : ∀ x ∈ xs, x.size ≤ 9223372036854775807) : OwnL w' B (Sr.ds xs) v := by
  obtain ⟨F, h1, h2⟩ := Rd.of_own h (by rw [Sr.ds_length]) (Sr.rdall xs hL) (Owned.nil w' B) (fun _ _ hx => by simp at hx)
  exact ⟨F, h1, h2⟩
theorem GivesSrs.none {w w' : World} (a : Option Addr) (hb : Below w.heap.size w w') : GivesSrs [] w (.returned (.slice a 0 0)) w' := ⟨a, 0, rfl, ⟨[], Rd.nil_mk (by omega), Owned.nil _ _⟩, hb⟩
theorem GivesSrs.of_now {w w0 w1 w' : World} {v v' : Value} {zs : List ByteArray} (hb : Below w.heap.size w w0) (hg : NNow w0 w1 v zs v' w') (hL : ∀ x ∈ zs, x.size ≤ 9223372036854775807) : GivesSrs zs w (.returned v') w' := by
  have ho := OwnS.mono (ownsRow.rd_strs hg.1 hL) hb.size
  have hbb := hb.trans (hg.2.1.mono hb.size)
  rcases hg.1.2 with ⟨rfl, hn⟩ | ⟨g, cap, cur, rfl, _⟩
  · exact ⟨Option.none, 0, by rw [hn], by rw [hn]; exact ho, hbb⟩
  · exact ⟨some ⟨g, 0, Option.none⟩, cap, rfl, ho, hbb⟩
theorem spec_free (k1 : Int) (u1 : Int) (n1 : ByteArray) (tk1 : Int) (tn1 : ByteArray) (tks1 : List Ty) (ns1 : List ByteArray) (ks1 : List Tm) (atks1 : Option Addr) (ctks1 : Nat) (ans1 : Option Addr) (cns1 : Nat) (aks1 : Option Addr) (cks1 : Nat) (b1 o1 : Nat) (v : Value) (w0 w : World) (hM : Tm.bulk (Tm.mk k1 u1 n1 (Ty.mk tk1 tn1 tks1) ns1 ks1) ≤ 1048576) (hg : Tm.good (Tm.mk k1 u1 n1 (Ty.mk tk1 tn1 tks1) ns1 ks1) = true) (x0 : w0.cell? ⟨b1, o1, none⟩ = some (.int .i64 k1)) (x2 : w0.cell? ⟨b1, o1 + 2, none⟩ = some (.string n1)) (x6 : w0.cell? ⟨b1, o1 + 6, none⟩ = some (.slice ans1 ns1.length cns1)) (x7 : w0.cell? ⟨b1, o1 + 7, none⟩ = some (.slice aks1 ks1.length cks1)) (hr : RdS w0 (Tm.d (Tm.mk k1 u1 n1 (Ty.mk tk1 tn1 tks1) ns1 ks1)) [.int .i64 k1, .int .i64 u1, .string n1, .int .i64 tk1, .string tn1, .slice atks1 tks1.length ctks1, .slice ans1 ns1.length cns1, .slice aks1 ks1.length cks1]) (hb : Below w0.heap.size w0 w) (ho : w.ownsRow w0.heap.size 9 1 v 0 []) :
    Calls Tryz.prog 45 #[.pointer (some ⟨b1, o1, none⟩), .slice none 0 0, v] w (GivesSrs (Tm.free (Tm.mk k1 u1 n1 (Ty.mk tk1 tn1 tks1) ns1 ks1) [] []) w0) := by
  refine (l03Free_all (Tm.bulk (Tm.mk k1 u1 n1 (Ty.mk tk1 tn1 tks1) ns1 ks1) + 1) w0 k1 u1 n1 tk1 tn1 tks1 ns1 ks1 atks1 ctks1 ans1 cns1 aks1 cks1 b1 o1 [] [] (.slice none 0 0) v w (by omega) hM (by simp; omega) (by simp; omega) hg x0 x2 x6 x7 hr hb (StrsL.nil _) (fun h => by simp at h) ho).mono ?_
  rintro e w2 ⟨v2, rfl, hg2⟩
  exact GivesSrs.of_now (Below.refl _ _) hg2 (free_sz _ hM)
theorem impl_free (k1 : Int) (u1 : Int) (n1 : ByteArray) (tk1 : Int) (tn1 : ByteArray) (tks1 : List Ty) (ns1 : List ByteArray) (ks1 : List Tm) (atks1 : Option Addr) (ctks1 : Nat) (ans1 : Option Addr) (cns1 : Nat) (aks1 : Option Addr) (cks1 : Nat) (w : World) (hM : Tm.bulk (Tm.mk k1 u1 n1 (Ty.mk tk1 tn1 tks1) ns1 ks1) ≤ 1048576) (hg : Tm.good (Tm.mk k1 u1 n1 (Ty.mk tk1 tn1 tks1) ns1 ks1) = true) (hr : RdS w (Tm.d (Tm.mk k1 u1 n1 (Ty.mk tk1 tn1 tks1) ns1 ks1)) [.int .i64 k1, .int .i64 u1, .string n1, .int .i64 tk1, .string tn1, .slice atks1 tks1.length ctks1, .slice ans1 ns1.length cns1, .slice aks1 ks1.length cks1]) :
    Calls Tryz.prog 52 #[.agg #[.int .i64 k1, .int .i64 u1, .string n1, .int .i64 tk1, .string tn1, .slice atks1 tks1.length ctks1, .slice ans1 ns1.length cns1, .slice aks1 ks1.length cks1]] w (GivesSrs (Tm.free (Tm.mk k1 u1 n1 (Ty.mk tk1 tn1 tks1) ns1 ks1) [] []) w) := by
  have hB := (Below.refl w.heap.size w).alloc (Nat.le_refl _) (.cells #[.int .i64 k1, .int .i64 u1, .string n1, .int .i64 tk1, .string tn1, .slice atks1 tks1.length ctks1, .slice ans1 ns1.length cns1, .slice aks1 ks1.length cks1] 63)
  have hc := addFree_all (Tm.bulk (Tm.mk k1 u1 n1 (Ty.mk tk1 tn1 tks1) ns1 ks1) + 1) (w.alloc (.cells #[.int .i64 k1, .int .i64 u1, .string n1, .int .i64 tk1, .string tn1, .slice atks1 tks1.length ctks1, .slice ans1 ns1.length cns1, .slice aks1 ks1.length cks1] 63)) k1 u1 n1 tk1 tn1 tks1 ns1 ks1 atks1 ctks1 ans1 cns1 aks1 cks1 [] [] (.slice none 0 0) (.slice none 0 0) (w.alloc (.cells #[.int .i64 k1, .int .i64 u1, .string n1, .int .i64 tk1, .string tn1, .slice atks1 tks1.length ctks1, .slice ans1 ns1.length cns1, .slice aks1 ks1.length cks1] 63)) (by omega) hM (by simp; omega) (by simp; omega) hg (hr.below hB) (Below.refl _ _) (StrsL.nil _) (fun h => by simp at h) (World.ownsRow_nil _ _ _ _)
  have HC := hid hc
  have HB := hid hB
  have HSZ := hid (free_sz _ hM)
  clear hc hB hM hg hr
  go_enter Tryz.func52, Tryz.ntmps52
  go_wp2_with fail
  refine HC.out.mono ?_
  rintro e w2 ⟨v2, rfl, hg2⟩
  have HP := hid (GivesSrs.of_now HB.out hg2 HSZ.out)
  clear hg2
  go_wp2_with fail
  go_ret
  exact HP.out
end Go.Proofs.YtgpefnlpbjnjbaaGreat

namespace Go.Proofs.YtgpefnlpbjnjbaaGreat
open Go.ChangeShapes Go.WideShapes Go.ChangeAt Go.RowKit
set_option linter.unusedVariables false

set_option maxRecDepth 100000 in
set_option maxHeartbeats 1000000 in
theorem indexFunc_Sr_1 (F : FuncId) (eF : ∀ args (w : World), (callFunc F args).run Tryz.prog w = .ok (.enter F args) w) (q0 : Value) (p : ByteArray → Bool) (Good : World → Prop) (hk : ∀ w w', Below w.heap.size w w' → Good w → Good w') (ts : List ByteArray) (a : Option Addr) (c : Nat) (w : World) (hg : Good w) (hr : RdL w (Sr.ds ts) (.slice a ts.length c))
    (hc : ∀ (x : ByteArray) (j : Nat) (W : World), ts[j]? = some (x) → Good W → x.size ≤ 9223372036854775807 → Calls Tryz.prog F #[.string x, q0] W fun e w' => e = .returned (.bool (p (x))) ∧ Below W.heap.size W w') :
    Calls Tryz.prog 107 #[.slice a ts.length c, .func (.func F) #[] #[q0]] w fun e w' => e = .returned (.int .i64 (fstAt p ts)) ∧ Below w.heap.size w w' := by
  obtain ⟨_, _, e, h2, h3, h4⟩ := hr.eSr
  simp only [Value.slice.injEq, true_and] at e
  obtain ⟨rfl, rfl⟩ := e
  have H4 := hid h4
  have HC0 := hid hc
  have HK := hid hk
  have HG := hid hg
  clear hr h4 hc hk hg
  go_enter Tryz.func107, Tryz.ntmps107
  go_wp2_with fail
  go_loopw [5, 8] (fun _ i wr => ∃ (j : Nat), j ≤ ts.length ∧ i = .int .i64 j ∧ Hid (∀ (i : Nat) t, i < j → ts[i]? = some t → p t = false) ∧ Below w.heap.size w wr) (fun _ i _ => ts.length - (intOf i).toNat)
  case atStart => exact ⟨0, by omega, rfl, fun i t hi => absurd hi (by omega), Below.refl _ _⟩
  case round =>
    obtain ⟨j, hj, rfl, HJ, hb⟩ := hrel
    by_cases hlt : j < ts.length
    case pos =>
      obtain ⟨b, o, rfl, hbl, hall⟩ := H4.out (by omega)
      obtain ⟨t, ht⟩ : ∃ t, ts[j]? = some t := ⟨_, List.getElem?_eq_getElem hlt⟩
      obtain ⟨q0, hfc⟩ := hall j t ht
      clear hall H4
      have d0 := (hb.cell (p := ⟨b, o + j, none⟩) hbl).trans q0
      have hcc := fun hG => HC0.out t j wr ht hG hfc
      have HT := hid ht
      have HGW := hid (HK.out _ _ hb HG.out)
      by_cases hq : p (t) = true
      case pos =>
        rw [hq] at hcc
        have HC := hid hcc
        have HQ := hid hq
        clear ht q0 hcc hq HC0
        go_wp2_with fail
        refine (HC.out HGW.out).mono ?_
        clear HC
        rintro e w1 ⟨rfl, hb1⟩
        have hbw := hb.trans (hb1.mono hb.size)
        clear hb1
        go_wp2_with fail
        go_ret
        exact ⟨ret_int (fstAt_yes p ts j _ HT.out HQ.out HJ.out).symm, hbw⟩
      case neg =>
        replace hq := (Bool.not_eq_true _).mp hq
        rw [hq] at hcc
        have HC := hid hcc
        have HQ := hid hq
        clear ht q0 hcc hq HC0
        go_wp2_with fail
        refine (HC.out HGW.out).mono ?_
        clear HC
        rintro e w1 ⟨rfl, hb1⟩
        have hbw := hb.trans (hb1.mono hb.size)
        clear hb1
        go_wp2_with fail
        go_roundw
        case rel => exact ⟨j + 1, by omega, by go_num, fun i t hi hti => (Nat.lt_succ_iff_lt_or_eq.1 hi).elim (fun hi => HJ.out i t hi hti) (fun he => by subst he; obtain rfl := Option.some.inj (hti.symm.trans HT.out); exact HQ.out), hbw⟩
        case measure => simp [intOf]; omega
    case neg =>
      go_wp2_with fail
      go_ret
      exact ⟨ret_int (fstAt_no p ts fun i t hti => HJ.out i t (by have := (List.getElem?_eq_some_iff.1 hti).1; omega) hti).symm, hb⟩
theorem contains_Sr_1 (F : FuncId) (eF : ∀ args (w : World), (callFunc F args).run Tryz.prog w = .ok (.enter F args) w) (q0 : Value) (p : ByteArray → Bool) (Good : World → Prop) (hk : ∀ w w', Below w.heap.size w w' → Good w → Good w') (ts : List ByteArray) (a : Option Addr) (c : Nat) (w : World) (hg : Good w) (hr : RdL w (Sr.ds ts) (.slice a ts.length c))
    (hc : ∀ (x : ByteArray) (j : Nat) (W : World), ts[j]? = some (x) → Good W → x.size ≤ 9223372036854775807 → Calls Tryz.prog F #[.string x, q0] W fun e w' => e = .returned (.bool (p (x))) ∧ Below W.heap.size W w') :
    Calls Tryz.prog 67 #[.slice a ts.length c, .func (.func F) #[] #[q0]] w fun e w' => e = .returned (.bool (ts.any p)) ∧ Below w.heap.size w w' := by
  have HC := hid (indexFunc_Sr_1 F eF q0 p Good hk ts a c w hg hr hc)
  have HR := hid (fstAt_any p ts)
  clear hr hc hk hg eF
  generalize fstAt p ts = r at HC HR
  generalize ts.any p = bb at HR ⊢
  go_enter Tryz.func67, Tryz.ntmps67
  go_wp2_with fail
  refine HC.out.mono ?_
  rintro e w1 ⟨rfl, hb⟩
  go_wp2_with fail
  go_ret
  exact ⟨ret_bool HR.out, hb⟩

end Go.Proofs.YtgpefnlpbjnjbaaGreat

namespace Go.Proofs.YtgpefnlpbjnjbaaGreat
open Go.ChangeShapes Go.WideShapes Go.ChangeAt Go.RowKit Go.BigFrame
open Go.Sort (grow)
set_option linter.unusedVariables false

theorem boxes2c (w : World) (a b : Obj) : ((w.alloc a).alloc b).heap[w.heap.size]? = some a ∧ ((w.alloc a).alloc b).heap[w.heap.size + 1]? = some b ∧ Below w.heap.size w ((w.alloc a).alloc b) := by
  have h1 := heap_alloc_new w a
  have h2 := heap_alloc_new (w.alloc a) b
  simp only [World.size_alloc] at h2
  refine ⟨?_, h2, ((Below.refl _ _).alloc (Nat.le_refl _) _).alloc (by simp) _⟩
  rw [Below.heap_alloc _ _ _ (by simp)]; exact h1
theorem heap_liftc {w w' : World} {b : Nat} {o : Obj} (h : w.heap[b]? = some o) (hb : Below w.heap.size w w') : w'.heap[b]? = some o := (hb.block _ (Array.getElem?_eq_some_iff.1 h).1).trans h
/-- What the closures over a program read. -/
def PgG (ds1 : List Dat) (fs1 : List Df) (ads1 : Option Addr) (cds1 : Nat) (afs1 : Option Addr) (cfs1 : Nat) (pb : Nat) (W : World) : Prop := W.cell? ⟨pb, 0, none⟩ = some (.slice ads1 ds1.length cds1) ∧ W.cell? ⟨pb, 1, none⟩ = some (.slice afs1 fs1.length cfs1) ∧ RdL W (Dat.ds ds1) (.slice ads1 ds1.length cds1) ∧ RdL W (Df.ds fs1) (.slice afs1 fs1.length cfs1)
theorem PgG.below {ds1 : List Dat} {fs1 : List Df} {ads1 : Option Addr} {cds1 : Nat} {afs1 : Option Addr} {cfs1 : Nat} {pb : Nat} {w w' : World} (h : PgG ds1 fs1 ads1 cds1 afs1 cfs1 pb w) (hb : Below w.heap.size w w') : PgG ds1 fs1 ads1 cds1 afs1 cfs1 pb w' :=
  ⟨(hb.cell (p := ⟨pb, 0, none⟩) (World.block_lt_of_cell? _ _ h.1)).trans h.1, (hb.cell (p := ⟨pb, 1, none⟩) (World.block_lt_of_cell? _ _ h.2.1)).trans h.2.1, h.2.2.1.below hb, h.2.2.2.below hb⟩
theorem Tm.good_lam {u : Int} {n : ByteArray} {t : Ty} {ns : List ByteArray} {ks : List Tm} (h : Tm.good (.mk 4 u n t ns ks) = true) : Ty.good t = true := by
  rw [Tm.good, Bool.and_eq_true] at h
  have h1 := h.1
  simp only [okTm, tmFields, Bool.and_eq_true] at h1
  have h2 := h1.2.2.1
  rw [tmType, if_pos rfl] at h2
  exact Ty.ok_good h2
theorem impl_noDef (ds1 : List Dat) (fs1 : List Df) (ads1 : Option Addr) (cds1 : Nat) (afs1 : Option Addr) (cfs1 : Nat) (pb : Nat) (nm : ByteArray) (w : World) (hg : PgG ds1 fs1 ads1 cds1 afs1 cfs1 pb w) :
    Calls Tryz.prog 68 #[.string nm, .pointer (some ⟨pb, 0, none⟩)] w fun e w' => e = .returned (.bool (noDef fs1 nm)) ∧ Below w.heap.size w w' := by
  have HC := hid (impl_findDef ds1 fs1 ads1 cds1 afs1 cfs1 nm w hg.2.2.2)
  have HF := hid (show noDef fs1 nm = decide (namedF fs1 nm < 0) from rfl)
  generalize namedF fs1 nm = r at HC HF
  have z0 := hg.1
  have z1 := hg.2.1
  clear hg
  go_enter Tryz.func68, Tryz.ntmps68
  go_wp2_with fail
  refine HC.out.mono ?_
  rintro e w1 ⟨rfl, hb⟩
  go_wp2_with fail
  go_ret
  exact ⟨ret_bool HF.out.symm, hb⟩
set_option maxRecDepth 100000 in
set_option maxHeartbeats 2000000 in
theorem impl_badName (ds1 : List Dat) (fs1 : List Df) (ads1 : Option Addr) (cds1 : Nat) (afs1 : Option Addr) (cfs1 : Nat) (hD : Dat.bulks ds1 ≤ 1048576) (pb : Nat) (k1 : Int) (u1 : Int) (n1 : ByteArray) (tk1 : Int) (tn1 : ByteArray) (tks1 : List Ty) (ns1 : List ByteArray) (ks1 : List Tm) (atks1 : Option Addr) (ctks1 : Nat) (ans1 : Option Addr) (cns1 : Nat) (aks1 : Option Addr) (cks1 : Nat) (w : World) (ho : Tm.good (Tm.mk k1 u1 n1 (Ty.mk tk1 tn1 tks1) ns1 ks1) = true) (hg : PgG ds1 fs1 ads1 cds1 afs1 cfs1 pb w) (hr : RdS w (Tm.d (Tm.mk k1 u1 n1 (Ty.mk tk1 tn1 tks1) ns1 ks1)) [.int .i64 k1, .int .i64 u1, .string n1, .int .i64 tk1, .string tn1, .slice atks1 tks1.length ctks1, .slice ans1 ns1.length cns1, .slice aks1 ks1.length cks1]) :
    Calls Tryz.prog 69 #[.agg #[.int .i64 k1, .int .i64 u1, .string n1, .int .i64 tk1, .string tn1, .slice atks1 tks1.length ctks1, .slice ans1 ns1.length cns1, .slice aks1 ks1.length cks1], .pointer (some ⟨pb, 0, none⟩)] w fun e w' => e = .returned (.bool (badName ds1 (Tm.mk k1 u1 n1 (Ty.mk tk1 tn1 tks1) ns1 ks1))) ∧ Below w.heap.size w w' := by
  have hB := (Below.refl w.heap.size w).alloc (Nat.le_refl _) (.cells #[.int .i64 k1, .int .i64 u1, .string n1, .int .i64 tk1, .string tn1, .slice atks1 tks1.length ctks1, .slice ans1 ns1.length cns1, .slice aks1 ks1.length cks1] 63)
  have hx := heap_alloc_new w (.cells #[.int .i64 k1, .int .i64 u1, .string n1, .int .i64 tk1, .string tn1, .slice atks1 tks1.length ctks1, .slice ans1 ns1.length cns1, .slice aks1 ks1.length cks1] 63)
  have hg2 := hg.below hB
  have z0 := hg2.1
  have HB := hid hB
  have e0 := heap_cell hx (j := 0) rfl
  have e1 := heap_cell hx (j := 1) rfl
  have e2 := heap_cell hx (j := 2) rfl
  have e3 := heap_cell hx (j := 3) rfl
  have e4 := heap_cell hx (j := 4) rfl
  have e5 := heap_cell hx (j := 5) rfl
  have e6 := heap_cell hx (j := 6) rfl
  have e7 := heap_cell hx (j := 7) rfl
  have hcn := impl_Con ds1 ads1 cds1 n1 _ hD hg2.2.2.1
  clear hx
  by_cases hk4 : k1 = 4
  case pos =>
    subst hk4
    have hdc := impl_declared ds1 ads1 cds1 tk1 tn1 tks1 atks1 ctks1 _ (Tm.good_lam ho) hg2.2.2.1 (hr.subTm_t.below hB)
    have HC := hid hdc
    have HF := hid (badName_lam ds1 u1 n1 (Ty.mk tk1 tn1 tks1) ns1 ks1)
    generalize Ty.known ds1 (Ty.mk tk1 tn1 tks1) = r at HC HF
    clear hdc hcn hg2 hB hr ho hg
    go_enter Tryz.func69, Tryz.ntmps69
    go_wp2_with fail
    refine HC.out.mono ?_
    rintro e w1 ⟨rfl, hb⟩
    have HB1 := hid (HB.out.trans (hb.mono HB.out.size))
    clear hb
    go_wp2_with fail
    go_ret
    exact ⟨ret_bool HF.out.symm, HB1.out⟩
  case neg =>
  have g4 : (k1 == 4) = false := by simp [hk4]
  by_cases hk : k1 = 8 ∨ k1 = 10
  case pos =>
    have HF := hid (badName_con ds1 hk u1 n1 (Ty.mk tk1 tn1 tks1) ns1 ks1)
    unfold conIdx at HF
    generalize (conOf n1 ds1 0) = r at hcn HF
    obtain ⟨r1, r2⟩ := r
    simp only at hcn HF
    generalize tagOf (r1, r2) = r3 at hcn
    have HC := hid hcn
    clear hcn hg2 hB hr ho hg
    by_cases hk8 : k1 = 8
    case pos =>
      have g8 : (k1 == 8) = true := by simp [hk8]
      clear hk hk8 hk4
      go_enter Tryz.func69, Tryz.ntmps69
      go_wp2_with fail
      refine HC.out.mono ?_
      rintro e w1 ⟨rfl, hb⟩
      have HB1 := hid (HB.out.trans (hb.mono HB.out.size))
      clear hb
      go_wp2_with fail
      go_ret
      exact ⟨ret_bool HF.out.symm, HB1.out⟩
    case neg =>
      have g8 : (k1 == 8) = false := by simp [hk8]
      have g10 : (k1 == 10) = true := by simp; omega
      clear hk hk8 hk4
      go_enter Tryz.func69, Tryz.ntmps69
      go_wp2_with fail
      refine HC.out.mono ?_
      rintro e w1 ⟨rfl, hb⟩
      have HB1 := hid (HB.out.trans (hb.mono HB.out.size))
      clear hb
      go_wp2_with fail
      go_ret
      exact ⟨ret_bool HF.out.symm, HB1.out⟩
  case neg =>
    have g8 : (k1 == 8) = false := by simp; omega
    have g10 : (k1 == 10) = false := by simp; omega
    have HF := hid (badName_else ds1 hk4 (fun h => hk (.inl h)) (fun h => hk (.inr h)) u1 n1 (Ty.mk tk1 tn1 tks1) ns1 ks1)
    clear hcn hg2 hB hr ho hg hk hk4
    go_enter Tryz.func69, Tryz.ntmps69
    go_wp2_with fail
    go_ret
    exact ⟨ret_bool HF.out.symm, HB.out⟩
theorem goodTm_kid (k u : Int) (n : ByteArray) (t : Ty) (ns : List ByteArray) (ks : List Tm) (j : Nat) (x : Tm) (h : Tm.good (.mk k u n t ns ks) = true) (hj : ks[j]? = some x) : Tm.good x = true := by
  rw [Tm.good, Bool.and_eq_true, Bool.and_eq_true] at h
  exact Tm.goods_get ks j x h.2.2 hj
set_option maxRecDepth 100000 in
set_option maxHeartbeats 4000000 in
theorem impl_unknown (ds1 : List Dat) (fs1 : List Df) (ads1 : Option Addr) (cds1 : Nat) (afs1 : Option Addr) (cfs1 : Nat) (hD : Dat.bulks ds1 ≤ 1048576) (n3 : ByteArray) (tk3 : Int) (tn3 : ByteArray) (tks3 : List Ty) (bk3 bu3 : Int) (bn3 : ByteArray) (btk3 : Int) (btn3 : ByteArray) (btks3 : List Ty) (bns3 : List ByteArray) (bks3 : List Tm) (atks3 : Option Addr) (ctks3 : Nat) (abtks3 : Option Addr) (cbtks3 : Nat) (abns3 : Option Addr) (cbns3 : Nat) (abks3 : Option Addr) (cbks3 : Nat) (w : World) (hMb : Tm.bulk (Tm.mk bk3 bu3 bn3 (Ty.mk btk3 btn3 btks3) bns3 bks3) ≤ 1048576) (hgt : Ty.good (Ty.mk tk3 tn3 tks3) = true) (hgb : Tm.good (Tm.mk bk3 bu3 bn3 (Ty.mk btk3 btn3 btks3) bns3 bks3) = true) (hd : RdL w (Dat.ds ds1) (.slice ads1 ds1.length cds1)) (hf : RdL w (Df.ds fs1) (.slice afs1 fs1.length cfs1)) (hr : RdS w (Df.d (Df.mk n3 (Ty.mk tk3 tn3 tks3) (Tm.mk bk3 bu3 bn3 (Ty.mk btk3 btn3 btks3) bns3 bks3))) [.string n3, .int .i64 tk3, .string tn3, .slice atks3 tks3.length ctks3, .int .i64 bk3, .int .i64 bu3, .string bn3, .int .i64 btk3, .string btn3, .slice abtks3 btks3.length cbtks3, .slice abns3 bns3.length cbns3, .slice abks3 bks3.length cbks3]) :
    Calls Tryz.prog 34 #[.agg #[.slice ads1 ds1.length cds1, .slice afs1 fs1.length cfs1], .agg #[.string n3, .int .i64 tk3, .string tn3, .slice atks3 tks3.length ctks3, .int .i64 bk3, .int .i64 bu3, .string bn3, .int .i64 btk3, .string btn3, .slice abtks3 btks3.length cbtks3, .slice abns3 bns3.length cbns3, .slice abks3 bks3.length cbks3]] w fun e w' => e = .returned (.bool (unknownD ds1 fs1 (Df.mk n3 (Ty.mk tk3 tn3 tks3) (Tm.mk bk3 bu3 bn3 (Ty.mk btk3 btn3 btks3) bns3 bks3)))) ∧ Below w.heap.size w w' := by
  have hbx := boxes2c w (.cells #[.slice ads1 ds1.length cds1, .slice afs1 fs1.length cfs1] 32) (.cells #[.string n3, .int .i64 tk3, .string tn3, .slice atks3 tks3.length ctks3, .int .i64 bk3, .int .i64 bu3, .string bn3, .int .i64 btk3, .string btn3, .slice abtks3 btks3.length cbtks3, .slice abns3 bns3.length cbns3, .slice abks3 bks3.length cbks3] 65)
  have HX0 := hid hbx.1
  have HX1 := hid hbx.2.1
  have HBX := hid hbx.2.2
  have HUD := hid (unknownD_mk ds1 fs1 n3 (Ty.mk tk3 tn3 tks3) (Tm.mk bk3 bu3 bn3 (Ty.mk btk3 btn3 btks3) bns3 bks3))
  have hdc := impl_declared ds1 ads1 cds1 tk3 tn3 tks3 atks3 ctks3 _ hgt (hd.below hbx.2.2) ((RdS.subDf_t hr).below hbx.2.2)
  have HD := hid hd
  have HFS := hid hf
  have HRB := hid (RdS.subDf_b hr)
  have HGB := hid hgb
  have HMB := hid hMb
  have hGG := fun W (hW : Below ((w.alloc (.cells #[.slice ads1 ds1.length cds1, .slice afs1 fs1.length cfs1] 32)).alloc (.cells #[.string n3, .int .i64 tk3, .string tn3, .slice atks3 tks3.length ctks3, .int .i64 bk3, .int .i64 bu3, .string bn3, .int .i64 btk3, .string btn3, .slice abtks3 btks3.length cbtks3, .slice abns3 bns3.length cbns3, .slice abks3 bks3.length cbks3] 65)).heap.size ((w.alloc (.cells #[.slice ads1 ds1.length cds1, .slice afs1 fs1.length cfs1] 32)).alloc (.cells #[.string n3, .int .i64 tk3, .string tn3, .slice atks3 tks3.length ctks3, .int .i64 bk3, .int .i64 bu3, .string bn3, .int .i64 btk3, .string btn3, .slice abtks3 btks3.length cbtks3, .slice abns3 bns3.length cbns3, .slice abks3 bks3.length cbks3] 65)) W) => (show PgG ds1 fs1 ads1 cds1 afs1 cfs1 w.heap.size W from ⟨heap_cell (heap_liftc hbx.1 hW) (j := 0) rfl, heap_cell (heap_liftc hbx.1 hW) (j := 1) rfl, HD.out.below (hbx.2.2.trans (hW.mono hbx.2.2.size)), HFS.out.below (hbx.2.2.trans (hW.mono hbx.2.2.size))⟩)
  have HGG := hid hGG
  have HOB := hid (fun W (hW : Below ((w.alloc (.cells #[.slice ads1 ds1.length cds1, .slice afs1 fs1.length cfs1] 32)).alloc (.cells #[.string n3, .int .i64 tk3, .string tn3, .slice atks3 tks3.length ctks3, .int .i64 bk3, .int .i64 bu3, .string bn3, .int .i64 btk3, .string btn3, .slice abtks3 btks3.length cbtks3, .slice abns3 bns3.length cbns3, .slice abks3 bks3.length cbks3] 65)).heap.size ((w.alloc (.cells #[.slice ads1 ds1.length cds1, .slice afs1 fs1.length cfs1] 32)).alloc (.cells #[.string n3, .int .i64 tk3, .string tn3, .slice atks3 tks3.length ctks3, .int .i64 bk3, .int .i64 bu3, .string bn3, .int .i64 btk3, .string btn3, .slice abtks3 btks3.length cbtks3, .slice abns3 bns3.length cbns3, .slice abks3 bks3.length cbks3] 65)) W) => hbx.2.2.trans (hW.mono hbx.2.2.size))
  have p0 := heap_cell hbx.1 (j := 0) rfl
  have p1 := heap_cell hbx.1 (j := 1) rfl
  have d0 := heap_cell hbx.2.1 (j := 0) rfl
  have d1 := heap_cell hbx.2.1 (j := 1) rfl
  have d2 := heap_cell hbx.2.1 (j := 2) rfl
  have d3 := heap_cell hbx.2.1 (j := 3) rfl
  have d4 := heap_cell hbx.2.1 (j := 4) rfl
  have d5 := heap_cell hbx.2.1 (j := 5) rfl
  have d6 := heap_cell hbx.2.1 (j := 6) rfl
  have d7 := heap_cell hbx.2.1 (j := 7) rfl
  have d8 := heap_cell hbx.2.1 (j := 8) rfl
  have d9 := heap_cell hbx.2.1 (j := 9) rfl
  have d10 := heap_cell hbx.2.1 (j := 10) rfl
  have d11 := heap_cell hbx.2.1 (j := 11) rfl
  clear hbx hGG hd hf hr hgb hMb hgt
  cases hq : Ty.known ds1 (Ty.mk tk3 tn3 tks3)
  case false =>
    rw [hq] at hdc
    have HC := hid hdc
    have HE := hid (show unknownD ds1 fs1 (Df.mk n3 (Ty.mk tk3 tn3 tks3) (Tm.mk bk3 bu3 bn3 (Ty.mk btk3 btn3 btks3) bns3 bks3)) = true from HUD.out.trans (by rw [hq]; rfl))
    clear hdc hq
    go_enter Tryz.func34, Tryz.ntmps34
    go_wp2_with fail
    refine HC.out.mono ?_
    rintro e w1 ⟨rfl, hb⟩
    have HB1 := hid (HBX.out.trans (hb.mono HBX.out.size))
    clear hb
    go_wp2_with fail
    go_ret
    exact ⟨ret_bool HE.out.symm, HB1.out⟩
  case true =>
    rw [hq] at hdc
    have HC := hid hdc
    have HU2 := hid (show unknownD ds1 fs1 (Df.mk n3 (Ty.mk tk3 tn3 tks3) (Tm.mk bk3 bu3 bn3 (Ty.mk btk3 btn3 btks3) bns3 bks3)) = ((Tm.free (Tm.mk bk3 bu3 bn3 (Ty.mk btk3 btn3 btks3) bns3 bks3) [] []).any (noDef fs1) || Tm.anyN (badName ds1) (Tm.mk bk3 bu3 bn3 (Ty.mk btk3 btn3 btks3) bns3 bks3)) from HUD.out.trans (by rw [hq]; rfl))
    clear hdc hq
    go_enter Tryz.func34, Tryz.ntmps34
    go_wp2_with fail
    refine HC.out.mono ?_
    rintro e w1 ⟨rfl, hb⟩
    have HB1 := hid hb
    have HY0 := hid (heap_liftc HX0.out hb)
    have HY1 := hid (heap_liftc HX1.out hb)
    have hfr := impl_free bk3 bu3 bn3 btk3 btn3 btks3 bns3 bks3 abtks3 cbtks3 abns3 cbns3 abks3 cbks3 w1 HMB.out HGB.out (HRB.out.below (HOB.out _ hb))
    generalize hzs : Tm.free (Tm.mk bk3 bu3 bn3 (Ty.mk btk3 btn3 btks3) bns3 bks3) [] [] = zs at hfr
    have HZS := hid hzs
    have HFR := hid hfr
    clear hb hfr hzs p0 p1 d0 d1 d2 d3 d4 d5 d6 d7 d8 d9 d10 d11
    have d0 := heap_cell HY1.out (j := 0) rfl
    have d1 := heap_cell HY1.out (j := 1) rfl
    have d2 := heap_cell HY1.out (j := 2) rfl
    have d3 := heap_cell HY1.out (j := 3) rfl
    have d4 := heap_cell HY1.out (j := 4) rfl
    have d5 := heap_cell HY1.out (j := 5) rfl
    have d6 := heap_cell HY1.out (j := 6) rfl
    have d7 := heap_cell HY1.out (j := 7) rfl
    have d8 := heap_cell HY1.out (j := 8) rfl
    have d9 := heap_cell HY1.out (j := 9) rfl
    have d10 := heap_cell HY1.out (j := 10) rfl
    have d11 := heap_cell HY1.out (j := 11) rfl
    go_wp2_with fail
    refine HFR.out.mono ?_
    rintro e w2 ⟨af, cf, rfl, hof, hb2⟩
    have hb12 := HB1.out.trans (hb2.mono HB1.out.size)
    have HB2 := hid hb12
    have hcf := contains_Sr_1 68 Tryz.call68 (.pointer (some ⟨w.heap.size, 0, none⟩)) (noDef fs1) (PgG ds1 fs1 ads1 cds1 afs1 cfs1 w.heap.size) (fun x y hab h => h.below hab) zs af cf w2 (HGG.out _ hb12) hof.rd (fun x j W _ hG _ => impl_noDef ds1 fs1 ads1 cds1 afs1 cfs1 w.heap.size x W hG)
    have HZ0 := hid (heap_liftc HX1.out hb12)
    clear hof hb2 hb12 d0 d1 d2 d3 d4 d5 d6 d7 d8 d9 d10 d11
    cases hq : zs.any (noDef fs1)
    case true =>
      rw [hq] at hcf
      have HCF := hid hcf
      have HE := hid (show unknownD ds1 fs1 (Df.mk n3 (Ty.mk tk3 tn3 tks3) (Tm.mk bk3 bu3 bn3 (Ty.mk btk3 btn3 btks3) bns3 bks3)) = true from HU2.out.trans (by rw [HZS.out, hq]; rfl))
      clear hcf hq
      go_wp2_with fail
      refine HCF.out.mono ?_
      rintro e w3 ⟨rfl, hb3⟩
      have HB3 := hid (HB2.out.trans (hb3.mono HB2.out.size))
      clear hb3
      go_wp2_with fail
      go_ret
      exact ⟨ret_bool HE.out.symm, HOB.out _ HB3.out⟩
    case false =>
      rw [hq] at hcf
      have HCF := hid hcf
      have HE := hid (show unknownD ds1 fs1 (Df.mk n3 (Ty.mk tk3 tn3 tks3) (Tm.mk bk3 bu3 bn3 (Ty.mk btk3 btn3 btks3) bns3 bks3)) = Tm.anyN (badName ds1) (Tm.mk bk3 bu3 bn3 (Ty.mk btk3 btn3 btks3) bns3 bks3) from HU2.out.trans (by rw [HZS.out, hq]; rfl))
      clear hcf hq
      go_wp2_with fail
      refine HCF.out.mono ?_
      rintro e w3 ⟨rfl, hb3⟩
      have hb13 := HB2.out.trans (hb3.mono HB2.out.size)
      have HB3 := hid hb13
      have HY3 := hid (heap_liftc HX1.out hb13)
      have hco := anyT1_all 69 Tryz.call69 (.pointer (some ⟨w.heap.size, 0, none⟩)) (badName ds1) (fun t => Tm.good t = true) (PgG ds1 fs1 ads1 cds1 afs1 cfs1 w.heap.size) goodTm_kid (fun x y hab h => h.below hab) (Tm.bulk (Tm.mk bk3 bu3 bn3 (Ty.mk btk3 btn3 btks3) bns3 bks3) + 1) (fun k1 u1 n1 tk1 tn1 tks1 ns1 ks1 atks1 ctks1 ans1 cns1 aks1 cks1 W _ ho hG hR => impl_badName ds1 fs1 ads1 cds1 afs1 cfs1 hD w.heap.size k1 u1 n1 tk1 tn1 tks1 ns1 ks1 atks1 ctks1 ans1 cns1 aks1 cks1 W ho hG hR) (Tm.bulk (Tm.mk bk3 bu3 bn3 (Ty.mk btk3 btn3 btks3) bns3 bks3) + 1) (Nat.le_refl _) bk3 bu3 bn3 btk3 btn3 btks3 bns3 bks3 abtks3 cbtks3 abns3 cbns3 abks3 cbks3 w3 (by omega) HGB.out (HGG.out _ hb13) (HRB.out.below (HOB.out _ hb13))
      generalize Tm.anyN (badName ds1) (Tm.mk bk3 bu3 bn3 (Ty.mk btk3 btn3 btks3) bns3 bks3) = r at hco HE
      have HCO := hid hco
      clear hb3 hb13 hco
      have d0 := heap_cell HY3.out (j := 0) rfl
      have d1 := heap_cell HY3.out (j := 1) rfl
      have d2 := heap_cell HY3.out (j := 2) rfl
      have d3 := heap_cell HY3.out (j := 3) rfl
      have d4 := heap_cell HY3.out (j := 4) rfl
      have d5 := heap_cell HY3.out (j := 5) rfl
      have d6 := heap_cell HY3.out (j := 6) rfl
      have d7 := heap_cell HY3.out (j := 7) rfl
      have d8 := heap_cell HY3.out (j := 8) rfl
      have d9 := heap_cell HY3.out (j := 9) rfl
      have d10 := heap_cell HY3.out (j := 10) rfl
      have d11 := heap_cell HY3.out (j := 11) rfl
      go_wp2_with fail
      refine HCO.out.mono ?_
      rintro e w4 ⟨rfl, hb4⟩
      have HB4 := hid (HB3.out.trans (hb4.mono HB3.out.size))
      clear hb4 d0 d1 d2 d3 d4 d5 d6 d7 d8 d9 d10 d11
      go_wp2_with fail
      go_ret
      exact ⟨ret_bool HE.out.symm, HOB.out _ HB4.out⟩
end Go.Proofs.YtgpefnlpbjnjbaaGreat

namespace Go.Proofs.YtgpefnlpbjnjbaaGreat
open Go.ChangeShapes Go.WideShapes Go.ChangeAt Go.RowKit
set_option linter.unusedVariables false

set_option maxRecDepth 100000 in
set_option maxHeartbeats 1000000 in
theorem indexFunc_Df_b (F : FuncId) (eF : ∀ args (w : World), (callFunc F args).run Tryz.prog w = .ok (.enter F args) w) (q0 : Value) (p : Df → Bool) (Good : World → Prop) (hk : ∀ w w', Below w.heap.size w w' → Good w → Good w') (ts : List Df) (a : Option Addr) (c : Nat) (w : World) (hg : Good w) (hr : RdL w (Df.ds ts) (.slice a ts.length c))
    (hc : ∀ (n3 : ByteArray) (tk3 : Int) (tn3 : ByteArray) (tks3 : List Ty) (bk3 : Int) (bu3 : Int) (bn3 : ByteArray) (btk3 : Int) (btn3 : ByteArray) (btks3 : List Ty) (bns3 : List ByteArray) (bks3 : List Tm) (atks3 : Option Addr) (ctks3 : Nat) (abtks3 : Option Addr) (cbtks3 : Nat) (abns3 : Option Addr) (cbns3 : Nat) (abks3 : Option Addr) (cbks3 : Nat) (j : Nat) (W : World), ts[j]? = some (Df.mk n3 (Ty.mk tk3 tn3 tks3) (Tm.mk bk3 bu3 bn3 (Ty.mk btk3 btn3 btks3) bns3 bks3)) → Good W → RdS W (Df.d (Df.mk n3 (Ty.mk tk3 tn3 tks3) (Tm.mk bk3 bu3 bn3 (Ty.mk btk3 btn3 btks3) bns3 bks3))) [.string n3, .int .i64 tk3, .string tn3, .slice atks3 tks3.length ctks3, .int .i64 bk3, .int .i64 bu3, .string bn3, .int .i64 btk3, .string btn3, .slice abtks3 btks3.length cbtks3, .slice abns3 bns3.length cbns3, .slice abks3 bks3.length cbks3] → Calls Tryz.prog F #[q0, .agg #[.string n3, .int .i64 tk3, .string tn3, .slice atks3 tks3.length ctks3, .int .i64 bk3, .int .i64 bu3, .string bn3, .int .i64 btk3, .string btn3, .slice abtks3 btks3.length cbtks3, .slice abns3 bns3.length cbns3, .slice abks3 bks3.length cbks3]] W fun e w' => e = .returned (.bool (p (Df.mk n3 (Ty.mk tk3 tn3 tks3) (Tm.mk bk3 bu3 bn3 (Ty.mk btk3 btn3 btks3) bns3 bks3)))) ∧ Below W.heap.size W w') :
    Calls Tryz.prog 65 #[.slice a ts.length c, .func (.func F) #[q0] #[]] w fun e w' => e = .returned (.int .i64 (fstAt p ts)) ∧ Below w.heap.size w w' := by
  obtain ⟨_, _, e, h2, h3, h4⟩ := hr.eDf
  simp only [Value.slice.injEq, true_and] at e
  obtain ⟨rfl, rfl⟩ := e
  have H4 := hid h4
  have HC0 := hid hc
  have HK := hid hk
  have HG := hid hg
  clear hr h4 hc hk hg
  go_enter Tryz.func65, Tryz.ntmps65
  go_wp2_with fail
  go_loopw [5, 8] (fun _ i wr => ∃ (j : Nat), j ≤ ts.length ∧ i = .int .i64 j ∧ Hid (∀ (i : Nat) t, i < j → ts[i]? = some t → p t = false) ∧ Below w.heap.size w wr) (fun _ i _ => ts.length - (intOf i).toNat)
  case atStart => exact ⟨0, by omega, rfl, fun i t hi => absurd hi (by omega), Below.refl _ _⟩
  case round =>
    obtain ⟨j, hj, rfl, HJ, hb⟩ := hrel
    by_cases hlt : j < ts.length
    case pos =>
      obtain ⟨b, o, rfl, hbl, hall⟩ := H4.out (by omega)
      obtain ⟨t, ht⟩ : ∃ t, ts[j]? = some t := ⟨_, List.getElem?_eq_getElem hlt⟩
      obtain ⟨n3, ⟨tk3, tn3, tks3⟩, ⟨bk3, bu3, bn3, ⟨btk3, btn3, btks3⟩, bns3, bks3⟩⟩ := t
      obtain ⟨atks3, ctks3, abtks3, cbtks3, abns3, cbns3, abks3, cbks3, q_0, q_1, q_2, q_3, q_4, q_5, q_6, q_7, q_8, q_9, q_10, q_11, hrk⟩ := hall j n3 tk3 tn3 tks3 bk3 bu3 bn3 btk3 btn3 btks3 bns3 bks3 ht
      clear hall H4
      have d0 := (hb.cell (p := ⟨b, o + j * 12, none⟩) hbl).trans q_0
      have d1 := (hb.cell (p := ⟨b, o + j * 12 + 1, none⟩) hbl).trans q_1
      have d2 := (hb.cell (p := ⟨b, o + j * 12 + 2, none⟩) hbl).trans q_2
      have d3 := (hb.cell (p := ⟨b, o + j * 12 + 3, none⟩) hbl).trans q_3
      have d4 := (hb.cell (p := ⟨b, o + j * 12 + 4, none⟩) hbl).trans q_4
      have d5 := (hb.cell (p := ⟨b, o + j * 12 + 5, none⟩) hbl).trans q_5
      have d6 := (hb.cell (p := ⟨b, o + j * 12 + 6, none⟩) hbl).trans q_6
      have d7 := (hb.cell (p := ⟨b, o + j * 12 + 7, none⟩) hbl).trans q_7
      have d8 := (hb.cell (p := ⟨b, o + j * 12 + 8, none⟩) hbl).trans q_8
      have d9 := (hb.cell (p := ⟨b, o + j * 12 + 9, none⟩) hbl).trans q_9
      have d10 := (hb.cell (p := ⟨b, o + j * 12 + 10, none⟩) hbl).trans q_10
      have d11 := (hb.cell (p := ⟨b, o + j * 12 + 11, none⟩) hbl).trans q_11
      have hcc := fun hG => HC0.out n3 tk3 tn3 tks3 bk3 bu3 bn3 btk3 btn3 btks3 bns3 bks3 atks3 ctks3 abtks3 cbtks3 abns3 cbns3 abks3 cbks3 j wr ht hG (hrk.below hb)
      have HT := hid ht
      have HGW := hid (HK.out _ _ hb HG.out)
      by_cases hq : p (Df.mk n3 (Ty.mk tk3 tn3 tks3) (Tm.mk bk3 bu3 bn3 (Ty.mk btk3 btn3 btks3) bns3 bks3)) = true
      case pos =>
        rw [hq] at hcc
        have HC := hid hcc
        have HQ := hid hq
        clear ht hrk q_0 q_1 q_2 q_3 q_4 q_5 q_6 q_7 q_8 q_9 q_10 q_11 hcc hq HC0
        go_wp2_with fail
        refine (HC.out HGW.out).mono ?_
        clear HC
        rintro e w1 ⟨rfl, hb1⟩
        have hbw := hb.trans (hb1.mono hb.size)
        clear hb1
        go_wp2_with fail
        go_ret
        exact ⟨ret_int (fstAt_yes p ts j _ HT.out HQ.out HJ.out).symm, hbw⟩
      case neg =>
        replace hq := (Bool.not_eq_true _).mp hq
        rw [hq] at hcc
        have HC := hid hcc
        have HQ := hid hq
        clear ht hrk q_0 q_1 q_2 q_3 q_4 q_5 q_6 q_7 q_8 q_9 q_10 q_11 hcc hq HC0
        go_wp2_with fail
        refine (HC.out HGW.out).mono ?_
        clear HC
        rintro e w1 ⟨rfl, hb1⟩
        have hbw := hb.trans (hb1.mono hb.size)
        clear hb1
        go_wp2_with fail
        go_roundw
        case rel => exact ⟨j + 1, by omega, by go_num, fun i t hi hti => (Nat.lt_succ_iff_lt_or_eq.1 hi).elim (fun hi => HJ.out i t hi hti) (fun he => by subst he; obtain rfl := Option.some.inj (hti.symm.trans HT.out); exact HQ.out), hbw⟩
        case measure => simp [intOf]; omega
    case neg =>
      go_wp2_with fail
      go_ret
      exact ⟨ret_int (fstAt_no p ts fun i t hti => HJ.out i t (by have := (List.getElem?_eq_some_iff.1 hti).1; omega) hti).symm, hb⟩
theorem contains_Df_b (F : FuncId) (eF : ∀ args (w : World), (callFunc F args).run Tryz.prog w = .ok (.enter F args) w) (q0 : Value) (p : Df → Bool) (Good : World → Prop) (hk : ∀ w w', Below w.heap.size w w' → Good w → Good w') (ts : List Df) (a : Option Addr) (c : Nat) (w : World) (hg : Good w) (hr : RdL w (Df.ds ts) (.slice a ts.length c))
    (hc : ∀ (n3 : ByteArray) (tk3 : Int) (tn3 : ByteArray) (tks3 : List Ty) (bk3 : Int) (bu3 : Int) (bn3 : ByteArray) (btk3 : Int) (btn3 : ByteArray) (btks3 : List Ty) (bns3 : List ByteArray) (bks3 : List Tm) (atks3 : Option Addr) (ctks3 : Nat) (abtks3 : Option Addr) (cbtks3 : Nat) (abns3 : Option Addr) (cbns3 : Nat) (abks3 : Option Addr) (cbks3 : Nat) (j : Nat) (W : World), ts[j]? = some (Df.mk n3 (Ty.mk tk3 tn3 tks3) (Tm.mk bk3 bu3 bn3 (Ty.mk btk3 btn3 btks3) bns3 bks3)) → Good W → RdS W (Df.d (Df.mk n3 (Ty.mk tk3 tn3 tks3) (Tm.mk bk3 bu3 bn3 (Ty.mk btk3 btn3 btks3) bns3 bks3))) [.string n3, .int .i64 tk3, .string tn3, .slice atks3 tks3.length ctks3, .int .i64 bk3, .int .i64 bu3, .string bn3, .int .i64 btk3, .string btn3, .slice abtks3 btks3.length cbtks3, .slice abns3 bns3.length cbns3, .slice abks3 bks3.length cbks3] → Calls Tryz.prog F #[q0, .agg #[.string n3, .int .i64 tk3, .string tn3, .slice atks3 tks3.length ctks3, .int .i64 bk3, .int .i64 bu3, .string bn3, .int .i64 btk3, .string btn3, .slice abtks3 btks3.length cbtks3, .slice abns3 bns3.length cbns3, .slice abks3 bks3.length cbks3]] W fun e w' => e = .returned (.bool (p (Df.mk n3 (Ty.mk tk3 tn3 tks3) (Tm.mk bk3 bu3 bn3 (Ty.mk btk3 btn3 btks3) bns3 bks3)))) ∧ Below W.heap.size W w') :
    Calls Tryz.prog 33 #[.slice a ts.length c, .func (.func F) #[q0] #[]] w fun e w' => e = .returned (.bool (ts.any p)) ∧ Below w.heap.size w w' := by
  have HC := hid (indexFunc_Df_b F eF q0 p Good hk ts a c w hg hr hc)
  have HR := hid (fstAt_any p ts)
  clear hr hc hk hg eF
  generalize fstAt p ts = r at HC HR
  generalize ts.any p = bb at HR ⊢
  go_enter Tryz.func33, Tryz.ntmps33
  go_wp2_with fail
  refine HC.out.mono ?_
  rintro e w1 ⟨rfl, hb⟩
  go_wp2_with fail
  go_ret
  exact ⟨ret_bool HR.out, hb⟩

end Go.Proofs.YtgpefnlpbjnjbaaGreat

namespace Go.Proofs.YtgpefnlpbjnjbaaGreat
open Go.ChangeShapes Go.WideShapes Go.ChangeAt Go.RowKit Go.BigFrame
open Go.Sort (grow)
set_option linter.unusedVariables false

set_option maxRecDepth 100000 in
theorem impl_caseFits (k3 : Int) (u3 : Int) (n3 : ByteArray) (tk3 : Int) (tn3 : ByteArray) (tks3 : List Ty) (ns3 : List ByteArray) (ks3 : List Tm) (atks3 : Option Addr) (ctks3 : Nat) (ans3 : Option Addr) (cns3 : Nat) (aks3 : Option Addr) (cks3 : Nat) (m3 : ByteArray) (fs3 : List Ty) (afs3 : Option Addr) (cfs3 : Nat) (w : World) :
    Calls Tryz.prog 110 #[.agg #[.int .i64 k3, .int .i64 u3, .string n3, .int .i64 tk3, .string tn3, .slice atks3 tks3.length ctks3, .slice ans3 ns3.length cns3, .slice aks3 ks3.length cks3], .agg #[.string m3, .slice afs3 fs3.length cfs3]] w fun e w' => e = .returned (.bool (caseFits (Tm.mk k3 u3 n3 (Ty.mk tk3 tn3 tks3) ns3 ks3) (Con.mk m3 fs3))) ∧ Below w.heap.size w w' := by
  have hbx := boxes2c w (.cells #[.int .i64 k3, .int .i64 u3, .string n3, .int .i64 tk3, .string tn3, .slice atks3 tks3.length ctks3, .slice ans3 ns3.length cns3, .slice aks3 ks3.length cks3] 63) (.cells #[.string m3, .slice afs3 fs3.length cfs3] 116)
  have HBX := hid hbx.2.2
  have e0 := heap_cell hbx.1 (j := 0) rfl
  have e1 := heap_cell hbx.1 (j := 1) rfl
  have e2 := heap_cell hbx.1 (j := 2) rfl
  have e3 := heap_cell hbx.1 (j := 3) rfl
  have e4 := heap_cell hbx.1 (j := 4) rfl
  have e5 := heap_cell hbx.1 (j := 5) rfl
  have e6 := heap_cell hbx.1 (j := 6) rfl
  have e7 := heap_cell hbx.1 (j := 7) rfl
  have d0 := heap_cell hbx.2.1 (j := 0) rfl
  have d1 := heap_cell hbx.2.1 (j := 1) rfl
  have HF := hid (show caseFits (Tm.mk k3 u3 n3 (Ty.mk tk3 tn3 tks3) ns3 ks3) (Con.mk m3 fs3) = (decide (n3 = m3) && decide (ns3.length = fs3.length)) from rfl)
  clear hbx
  by_cases hnn : n3 = m3
  case neg =>
    have hbn := bytes_ne hnn
    have HE := hid (show caseFits (Tm.mk k3 u3 n3 (Ty.mk tk3 tn3 tks3) ns3 ks3) (Con.mk m3 fs3) = false by rw [HF.out, decide_eq_false hnn, Bool.false_and])
    clear hnn
    go_enter Tryz.func110, Tryz.ntmps110
    go_wp2_with fail
    go_ret
    exact ⟨ret_bool HE.out.symm, HBX.out⟩
  case pos =>
    have hbn := bytes_eq hnn
    have HN := hid hnn
    clear hnn
    by_cases hl : ns3.length = fs3.length
    case neg =>
      have hlb : ((ns3.length : Int) == (fs3.length : Int)) = false := by simp; omega
      have HE := hid (show caseFits (Tm.mk k3 u3 n3 (Ty.mk tk3 tn3 tks3) ns3 ks3) (Con.mk m3 fs3) = false by rw [HF.out, decide_eq_false hl, Bool.and_false])
      clear hl
      go_enter Tryz.func110, Tryz.ntmps110
      go_wp2_with fail
      go_ret
      exact ⟨ret_bool HE.out.symm, HBX.out⟩
    case pos =>
      have hlb : ((ns3.length : Int) == (fs3.length : Int)) = true := by simp; omega
      have HE := hid (show caseFits (Tm.mk k3 u3 n3 (Ty.mk tk3 tn3 tks3) ns3 ks3) (Con.mk m3 fs3) = true by rw [HF.out, decide_eq_true HN.out, decide_eq_true hl, Bool.true_and])
      clear hl
      go_enter Tryz.func110, Tryz.ntmps110
      go_wp2_with fail
      go_ret
      exact ⟨ret_bool HE.out.symm, HBX.out⟩
set_option maxRecDepth 100000 in
set_option maxHeartbeats 2000000 in
theorem impl_EqualCases (ts : List Tm) (us : List Con) (a a' : Option Addr) (cap cap' : Nat) (w : World) (hr : RdL w (Tm.ds ts) (.slice a ts.length cap)) (hr' : RdL w (Con.ds us) (.slice a' us.length cap')) :
    Calls Tryz.prog 109 #[.slice a ts.length cap, .slice a' us.length cap', .func (.func 110) #[] #[]] w
      fun e w' => e = .returned (.bool (casesEq ts us)) ∧ Below w.heap.size w w' := by
  obtain ⟨_, _, e, h2, h3, h4⟩ := hr.eTm
  simp only [Value.slice.injEq, true_and] at e
  obtain ⟨rfl, rfl⟩ := e
  obtain ⟨_, _, e, h2', h3', h4'⟩ := hr'.eCon
  simp only [Value.slice.injEq, true_and] at e
  obtain ⟨rfl, rfl⟩ := e
  have H4 := hid h4
  have H4' := hid h4'
  clear hr h4 hr' h4'
  by_cases hl : ts.length = us.length
  · have hlb : ((ts.length : Int) != (us.length : Int)) = false := by simp [hl]
    have HL := hid hl
    clear hl
    go_enter Tryz.func109, Tryz.ntmps109
    go_wp2_with fail
    go_loopw [7, 8, 9, 17] (fun _ _ _ i wr => ∃ (j : Nat), j ≤ ts.length ∧ i = .int .i64 j ∧ Hid (∀ (i : Nat) t u, i < j → ts[i]? = some t → us[i]? = some u → caseFits t u = true) ∧ Below w.heap.size w wr) (fun _ _ _ i _ => ts.length - (intOf i).toNat)
    case atStart => exact ⟨0, by omega, rfl, fun i t u hi => absurd hi (by omega), Below.refl _ _⟩
    case round =>
      obtain ⟨j, hj, rfl, HJ, hb⟩ := hrel
      by_cases hlt : j < ts.length
      · have x0 := hb.size
        have hlt' : j < us.length := by have := HL.out; omega
        obtain ⟨b, o, rfl, hbl, hall⟩ := H4.out (by omega)
        obtain ⟨b', o', rfl, hbl', hall'⟩ := H4'.out (by omega)
        obtain ⟨t, ht⟩ : ∃ t, ts[j]? = some t := ⟨_, List.getElem?_eq_getElem hlt⟩
        obtain ⟨t', ht'⟩ : ∃ t, us[j]? = some t := ⟨_, List.getElem?_eq_getElem hlt'⟩
        obtain ⟨k3, u3, n3, ⟨tk3, tn3, tks3⟩, ns3, ks3⟩ := t
        obtain ⟨m3, fs3⟩ := t'
        obtain ⟨atks3, ctks3, ans3, cns3, aks3, cks3, q0, q1, q2, q3, q4, q5, q6, q7, -⟩ := hall j k3 u3 n3 tk3 tn3 tks3 ns3 ks3 ht
        obtain ⟨afs3, cfs3, p0, p1, -⟩ := hall' j m3 fs3 ht'
        clear hall H4 hall' H4'
        have dq0 := (hb.cell (p := ⟨b, o + j * 8, none⟩) hbl).trans q0
        have dq1 := (hb.cell (p := ⟨b, o + j * 8 + 1, none⟩) hbl).trans q1
        have dq2 := (hb.cell (p := ⟨b, o + j * 8 + 2, none⟩) hbl).trans q2
        have dq3 := (hb.cell (p := ⟨b, o + j * 8 + 3, none⟩) hbl).trans q3
        have dq4 := (hb.cell (p := ⟨b, o + j * 8 + 4, none⟩) hbl).trans q4
        have dq5 := (hb.cell (p := ⟨b, o + j * 8 + 5, none⟩) hbl).trans q5
        have dq6 := (hb.cell (p := ⟨b, o + j * 8 + 6, none⟩) hbl).trans q6
        have dq7 := (hb.cell (p := ⟨b, o + j * 8 + 7, none⟩) hbl).trans q7
        have dp0 := (hb.cell (p := ⟨b', o' + j * 2, none⟩) hbl').trans p0
        have dp1 := (hb.cell (p := ⟨b', o' + j * 2 + 1, none⟩) hbl').trans p1
        have x1 : b < wr.heap.size := Nat.lt_of_lt_of_le hbl hb.size
        have x2 : b' < wr.heap.size := Nat.lt_of_lt_of_le hbl' hb.size
        have hc := fun (W : World) => impl_caseFits k3 u3 n3 tk3 tn3 tks3 ns3 ks3 atks3 ctks3 ans3 cns3 aks3 cks3 m3 fs3 afs3 cfs3 W
        have HT := hid ht
        have HT' := hid ht'
        clear ht q0 q1 q2 q3 q4 q5 q6 q7 p0 p1 ht'
        cases hq : caseFits (Tm.mk k3 u3 n3 (Ty.mk tk3 tn3 tks3) ns3 ks3) (Con.mk m3 fs3)
        · rw [hq] at hc
          have HC := hid hc
          clear hc
          go_wp2_with fail
          refine (HC.out _).mono ?_
          rintro e w1 ⟨rfl, hb1⟩
          have hbw : Below w.heap.size w w1 := ((hb.alloc hb.size _).alloc (by have := hb.size; simp; omega) _).trans (hb1.mono (by have := hb.size; simp; omega))
          go_wp2_with fail
          go_ret
          exact ⟨ret_bool (casesEq_no ts us j _ _ HT.out HT'.out hq).symm, hbw⟩
        · rw [hq] at hc
          have HC := hid hc
          clear hc
          go_wp2_with fail
          refine (HC.out _).mono ?_
          rintro e w1 ⟨rfl, hb1⟩
          have hbw : Below w.heap.size w w1 := ((hb.alloc hb.size _).alloc (by have := hb.size; simp; omega) _).trans (hb1.mono (by have := hb.size; simp; omega))
          clear hb1
          go_wp2_with fail
          go_roundw
          case rel =>
            refine ⟨j + 1, by omega, by go_num, fun i t u hi h1 h2 => ?_, hbw⟩
            rcases Nat.lt_succ_iff_lt_or_eq.1 hi with hi | rfl
            · exact HJ.out i t u hi h1 h2
            · obtain rfl := Option.some.inj (h1.symm.trans HT.out)
              obtain rfl := Option.some.inj (h2.symm.trans HT'.out)
              exact hq
          case measure => simp [intOf]; omega
      · go_wp2_with fail
        go_ret
        exact ⟨ret_bool (casesEq_yes ts us HL.out (fun i t u h1 h2 => HJ.out i t u (by have := (List.getElem?_eq_some_iff.1 h1).1; omega) h1 h2)).symm, hb⟩
  · have hlb : ((ts.length : Int) != (us.length : Int)) = true := by simp; omega
    rw [casesEq_len ts us hl]
    clear hl
    go_enter Tryz.func109, Tryz.ntmps109
    go_wp2_with fail
    go_ret
    exact ⟨rfl, Below.refl _ _⟩
/-- A list of terms without its first. -/
theorem RdL.dropTm {w : World} {ks : List Tm} {b o c : Nat} (hl : 1 ≤ ks.length) (h : RdL w (Tm.ds ks) (.slice (some ⟨b, o, none⟩) ks.length c)) : RdL w (Tm.ds (ks.drop 1)) (.slice (some ⟨b, o + 8, none⟩) (ks.drop 1).length (c - 1)) := by
  obtain ⟨F, h⟩ := h
  obtain ⟨a, cap, e, h2, h3, h4⟩ := h.list_inv
  rw [Tm.ds_length] at e h2
  simp only [List.cons.injEq, Value.slice.injEq, true_and, and_true] at e
  obtain ⟨rfl, rfl⟩ := e
  match ks, hl with
  | t :: ks, _ =>
    simp only [List.length_cons] at h2
    simp only [List.drop_succ_cons, List.drop_zero]
    by_cases hks : ks = []
    · subst hks
      exact ⟨[], Rd.nil_mk (by omega)⟩
    · rcases h4 with ⟨h, _⟩ | ⟨b', o', xs, F', _, ha, rfl, hb, hx, hr⟩
      · simp [Tm.ds] at h
      · simp only [Option.some.injEq, Addr.mk.injEq, and_true] at ha
        obtain ⟨rfl, rfl⟩ := ha
        rw [Tm.ds] at hr
        obtain ⟨c1, c2, F1, F2, rfl, rfl, g1, g2⟩ := hr.cons_inv
        have hc1 : c1.length = 8 := by rw [g1.length]; exact Tm.d_len t
        have hne : Tm.ds ks ≠ [] := fun e => hks (List.length_eq_zero_iff.1 (by rw [← Tm.ds_length, e]; rfl))
        have hrd := Rd.list_mk (w := w) (b := b) (o := o + 8) (cap := c - 1) hne (by rw [Tm.ds_length]; omega) (by omega) hb (fun j v hj => by
          have := hx (8 + j) v (by rw [List.getElem?_append_right (by omega), hc1]; simpa using hj)
          rw [Nat.add_assoc]; exact this) g2
        rw [Tm.ds_length] at hrd
        exact ⟨_, hrd⟩
set_option maxRecDepth 100000 in
set_option maxHeartbeats 4000000 in
theorem impl_wrongCases (ds1 : List Dat) (fs1 : List Df) (ads1 : Option Addr) (cds1 : Nat) (afs1 : Option Addr) (cfs1 : Nat) (hD : Dat.bulks ds1 ≤ 1048576) (ts : List Tm) (b o c : Nat) (nm : ByteArray) (w : World) (hl : 0 < ts.length) (hnm : ∃ t, ts[0]? = some t ∧ tmNm t = nm) (hcn : 0 ≤ (conOf nm ds1 0).1) (hd : RdL w (Dat.ds ds1) (.slice ads1 ds1.length cds1)) (hr : RdL w (Tm.ds ts) (.slice (some ⟨b, o, none⟩) ts.length c)) :
    Calls Tryz.prog 73 #[.agg #[.slice ads1 ds1.length cds1, .slice afs1 fs1.length cfs1], .slice (some ⟨b, o, none⟩) ts.length c] w fun e w' => e = .returned (.bool (!casesEq ts (consAt ds1 (conIdx ds1 nm)))) ∧ Below w.heap.size w w' := by
  have hB := (Below.refl w.heap.size w).alloc (Nat.le_refl _) (.cells #[.slice ads1 ds1.length cds1, .slice afs1 fs1.length cfs1] 32)
  have hx := heap_alloc_new w (.cells #[.slice ads1 ds1.length cds1, .slice afs1 fs1.length cfs1] 32)
  have HX := hid hx
  have HB := hid hB
  obtain ⟨j, m, cs, q, nc, fsc, hj, hcf, hq, hca, -⟩ := con_at hcn
  have HE0 := hid (show casesEq ts (consAt ds1 (conIdx ds1 nm)) = casesEq ts cs by unfold conIdx; rw [hcf, hca])
  obtain ⟨_, _, e, h2, h3, h4⟩ := hr.eTm
  simp only [Value.slice.injEq, true_and] at e
  obtain ⟨e1, rfl⟩ := e
  obtain ⟨b', o', ha, hbl, hall⟩ := h4 hl
  rw [← e1] at ha
  simp only [Option.some.injEq, Addr.mk.injEq, and_true] at ha
  obtain ⟨rfl, rfl⟩ := ha
  obtain ⟨t, ht, hnt⟩ := hnm
  obtain ⟨k3, u3, n3, ⟨tk3, tn3, tks3⟩, ns3, ks3⟩ := t
  have hnt' : n3 = nm := hnt
  subst hnt'
  obtain ⟨atks3, ctks3, ans3, cns3, aks3, cks3, q0, q1, q2, q3, q4, q5, q6, q7, -⟩ := hall 0 k3 u3 n3 tk3 tn3 tks3 ns3 ks3 ht
  simp only [Nat.zero_mul, Nat.add_zero] at q2
  obtain ⟨_, _, e, h2d, h3d, h4d⟩ := hd.eDat
  simp only [Value.slice.injEq, true_and] at e
  obtain ⟨rfl, rfl⟩ := e
  have hjl : j < ds1.length := (List.getElem?_eq_some_iff.1 hj).1
  obtain ⟨bd, od, rfl, hbd, halld⟩ := h4d (by omega)
  obtain ⟨acs, ccs, p0, p1, hrd⟩ := halld j m cs hj
  have hc := fun d os => Calls.regrown_of (impl_Con ds1 (some ⟨bd, od, none⟩) cds1 n3 (grow (redrawn (w.alloc (.cells #[.slice (some ⟨bd, od, none⟩) ds1.length cds1, .slice afs1 fs1.length cfs1] 32)) d) os) hD ((hd.below hB).below (below_regrown _ d os)))
  rw [hcf, tagOf_yes (by omega)] at hc
  simp only at hc
  have hdl := Dat.bulks_length ds1
  have hjb : (j : Int) ≤ 1048576 := by omega
  have hqb : (q : Int) ≤ 1048576 := by have h1 := (List.getElem?_eq_some_iff.1 hq).1; have h2 := Dat.bulk_get ds1 j _ hj; have h3 := Con.bulks_length cs; simp only [Dat.bulk] at h2; omega
  have HC := hid hc
  have P1 := hid p1
  have HBD := hid hbd
  have HRT := hid hr
  have HRC := hid hrd.fDat.2
  have e2 := cell_regrown ((hB.cell (p := ⟨b, o + 2, none⟩) hbl).trans q2)
  have f0 := cell_regrown (heap_cell hx (j := 0) rfl)
  clear hc hj hcf hca hq ht hnt q0 q1 q2 q3 q4 q5 q6 q7 h2 h3 h4 h2d h3d h4d halld p0 p1 hrd hall hd hr hcn hdl hB hx e1
  go_enter Tryz.func73, Tryz.ntmps73
  go_wp2_with fail
  generalize hw0 : (w.alloc (.cells #[.slice (some ⟨bd, od, none⟩) ds1.length cds1, .slice afs1 fs1.length cfs1] 32)) = w0 at HC HX HB e2 f0 ⊢
  refine wp_region_quiet_below (by kernel_rfl) (by kernel_rfl) ?_
  repeat (go_big_quiet_step (exact HC.out _ _))
  refine wpQuiet_nil ?_
  intro w3 hw'
  obtain ⟨⟨dq, osq⟩, hw''⟩ := hw'
  have hb3 : Below w0.heap.size w0 w3 := by subst hw''; exact below_regrown w0 dq osq
  clear hw''
  have HB3 := hid (HB.out.trans (hb3.mono HB.out.size))
  have HX3 := hid (heap_liftc HX.out hb3)
  have p1 := (HB3.out.cell (p := ⟨bd, od + j * 2 + 1, none⟩) HBD.out).trans P1.out
  have f0' := heap_cell HX3.out (j := 0) rfl
  have HEQ := hid (impl_EqualCases ts cs (some ⟨b, o, none⟩) acs c ccs w3 (HRT.out.below HB3.out) (HRC.out.below HB3.out))
  generalize casesEq ts cs = r at HE0 HEQ
  clear e2 f0 hb3 HC hw0
  go_wp2_with fail
  refine HEQ.out.mono ?_
  rintro e w4 ⟨rfl, hb4⟩
  have HB4 := hid (HB3.out.trans (hb4.mono HB3.out.size))
  clear hb4 p1 f0'
  go_wp2_with fail
  go_ret
  exact ⟨ret_bool (by rw [HE0.out]), HB4.out⟩
set_option maxRecDepth 100000 in
set_option maxHeartbeats 4000000 in
theorem impl_wrongB (ds1 : List Dat) (fs1 : List Df) (ads1 : Option Addr) (cds1 : Nat) (afs1 : Option Addr) (cfs1 : Nat) (hD : Dat.bulks ds1 ≤ 1048576) (k1 : Int) (u1 : Int) (n1 : ByteArray) (tk1 : Int) (tn1 : ByteArray) (tks1 : List Ty) (ns1 : List ByteArray) (ks1 : List Tm) (atks1 : Option Addr) (ctks1 : Nat) (ans1 : Option Addr) (cns1 : Nat) (aks1 : Option Addr) (cks1 : Nat) (w : World) (hM : Tm.bulk (Tm.mk k1 u1 n1 (Ty.mk tk1 tn1 tks1) ns1 ks1) ≤ 1048576) (ho : named1 ds1 (Tm.mk k1 u1 n1 (Ty.mk tk1 tn1 tks1) ns1 ks1)) (hd : RdL w (Dat.ds ds1) (.slice ads1 ds1.length cds1)) (hr : RdS w (Tm.d (Tm.mk k1 u1 n1 (Ty.mk tk1 tn1 tks1) ns1 ks1)) [.int .i64 k1, .int .i64 u1, .string n1, .int .i64 tk1, .string tn1, .slice atks1 tks1.length ctks1, .slice ans1 ns1.length cns1, .slice aks1 ks1.length cks1]) :
    Calls Tryz.prog 37 #[.agg #[.slice ads1 ds1.length cds1, .slice afs1 fs1.length cfs1], .agg #[.int .i64 k1, .int .i64 u1, .string n1, .int .i64 tk1, .string tn1, .slice atks1 tks1.length ctks1, .slice ans1 ns1.length cns1, .slice aks1 ks1.length cks1]] w fun e w' => e = .returned (.bool (wrongB ds1 (Tm.mk k1 u1 n1 (Ty.mk tk1 tn1 tks1) ns1 ks1))) ∧ Below w.heap.size w w' := by
  have hbx := boxes2c w (.cells #[.slice ads1 ds1.length cds1, .slice afs1 fs1.length cfs1] 32) (.cells #[.int .i64 k1, .int .i64 u1, .string n1, .int .i64 tk1, .string tn1, .slice atks1 tks1.length ctks1, .slice ans1 ns1.length cns1, .slice aks1 ks1.length cks1] 63)
  have HX0 := hid hbx.1
  have HX1 := hid hbx.2.1
  have HBX := hid hbx.2.2
  have p0 := heap_cell hbx.1 (j := 0) rfl
  have p1 := heap_cell hbx.1 (j := 1) rfl
  have e0 := heap_cell hbx.2.1 (j := 0) rfl
  have e1 := heap_cell hbx.2.1 (j := 1) rfl
  have e2 := heap_cell hbx.2.1 (j := 2) rfl
  have e3 := heap_cell hbx.2.1 (j := 3) rfl
  have e4 := heap_cell hbx.2.1 (j := 4) rfl
  have e5 := heap_cell hbx.2.1 (j := 5) rfl
  have e6 := heap_cell hbx.2.1 (j := 6) rfl
  have e7 := heap_cell hbx.2.1 (j := 7) rfl
  clear hbx
  have hlk : ks1.length ≤ 1048576 := by have := Tm.bulks_length ks1; simp only [Tm.bulk] at hM; omega
  by_cases hk8 : k1 = 8
  case pos =>
    subst hk8
    obtain ⟨j, m, cs, q, nc, fsc, hj, hcf, hq, -, hfn⟩ := con_at (named1_con ho (.inl rfl))
    have hf := wrongB_con ds1 u1 n1 (Ty.mk tk1 tn1 tks1) ns1 ks1
    rw [hfn] at hf
    have HF := hid hf
    obtain ⟨_, _, e, h2d, h3d, h4d⟩ := hd.eDat
    simp only [Value.slice.injEq, true_and] at e
    obtain ⟨rfl, rfl⟩ := e
    have hjl : j < ds1.length := (List.getElem?_eq_some_iff.1 hj).1
    obtain ⟨bd, od, rfl, hbd, halld⟩ := h4d (by omega)
    obtain ⟨acs, ccs, p0', p1', hrd⟩ := halld j m cs hj
    obtain ⟨_, _, e, h2c, h3c, h4c⟩ := hrd.fDat.2.eCon
    simp only [Value.slice.injEq, true_and] at e
    obtain ⟨rfl, rfl⟩ := e
    have hql : q < cs.length := (List.getElem?_eq_some_iff.1 hq).1
    obtain ⟨bc, oc, rfl, hbc, hallc⟩ := h4c (by omega)
    obtain ⟨afc, cfc, s0, s1, hrc⟩ := hallc q nc fsc hq
    have hcl : cs.length ≤ 1048576 := by have h1 := Dat.bulk_get ds1 j _ hj; have h2 := Con.bulks_length cs; simp only [Dat.bulk] at h1; omega
    have hdl := Dat.bulks_length ds1
    have hjb : (j : Int) ≤ 1048576 := by omega
    have hqb : (q : Int) ≤ 1048576 := by omega
    have hfb : fsc.length ≤ 9223372036854775807 := by obtain ⟨a9, c9, e9, h9, h9', -⟩ := hrc.fCon.2.eTy; omega
    have hc := impl_Con ds1 (some ⟨bd, od, none⟩) cds1 n1 _ hD (hd.below HBX.out)
    rw [hcf, tagOf_yes (by omega)] at hc
    simp only at hc
    have HC := hid hc
    have P1 := hid p1'
    have S1 := hid s1
    have HBD := hid hbd
    have HBC := hid hbc
    clear hc hj hcf hq hfn h2d h3d h4d halld p0' p1' hrd h2c h3c h4c hallc s0 s1 hrc hr hdl hd ho hf
    have HLB := hid (show ∃ r : Bool, ((ks1.length : Int) != (fsc.length : Int)) = r ∧ (!decide (ks1.length = fsc.length)) = r from ⟨_, rfl, by
      by_cases h : ks1.length = fsc.length
      · simp [h]
      · have : ((ks1.length : Int) != (fsc.length : Int)) = true := by simp; omega
        rw [this]; simp [h]⟩)
    obtain ⟨r, hlb, hlb2⟩ := HLB.out
    have HL2 := hid (HF.out.trans hlb2)
    clear HLB hlb2
    go_enter Tryz.func37, Tryz.ntmps37
    go_wp2_with fail
    refine HC.out.mono ?_
    rintro e w1 ⟨rfl, hb⟩
    have HB1 := hid (HBX.out.trans (hb.mono HBX.out.size))
    have HY0 := hid (heap_liftc HX0.out hb)
    have HY1 := hid (heap_liftc HX1.out hb)
    have e7' := cell_regrown (heap_cell HY1.out (j := 7) rfl)
    have p0' := cell_regrown (heap_cell HY0.out (j := 0) rfl)
    have p1' := cell_regrown ((HB1.out.cell (p := ⟨bd, od + j * 2 + 1, none⟩) HBD.out).trans P1.out)
    have s1' := cell_regrown ((HB1.out.cell (p := ⟨bc, oc + q * 2 + 1, none⟩) HBC.out).trans S1.out)
    clear hb p0 p1 e0 e1 e2 e3 e4 e5 e6 e7
    go_wp2_with fail
    refine wp_region_quiet_below (by kernel_rfl) (by kernel_rfl) ?_
    repeat (go_big_quiet_step (fail))
    refine wpQuiet_nil ?_
    intro w3 hw'
    obtain ⟨⟨dq, osq⟩, hw''⟩ := hw'
    have hb3 : Below w1.heap.size w1 w3 := by subst hw''; exact below_regrown w1 dq osq
    clear hw''
    clear e7' p0' p1' s1'
    go_wp2_with fail
    go_ret
    exact ⟨ret_bool HL2.out.symm, HB1.out.trans (hb3.mono HB1.out.size)⟩
  case neg =>
  have g8 : (k1 == 8) = false := by simp [hk8]
  by_cases hk9 : k1 = 9
  case pos =>
    subst hk9
    have HF := hid (wrongB_match ds1 u1 n1 (Ty.mk tk1 tn1 tks1) ns1 ks1)
    obtain ⟨hl2, hcn1⟩ := named1_match ho
    have hrk := hr.fTm.2.2.2.2.2
    obtain ⟨_, _, e, h2, h3, h4⟩ := hrk.eTm
    simp only [Value.slice.injEq, true_and] at e
    obtain ⟨rfl, rfl⟩ := e
    obtain ⟨b, o, rfl, hbl, -⟩ := h4 (by omega)
    have hrd := RdL.dropTm (by omega) hrk
    have hdl : (ks1.drop 1).length = ks1.length - 1 := by rw [List.length_drop]
    have hn0 : ∃ t, (ks1.drop 1)[0]? = some t ∧ tmNm t = name1 ks1 := by
      obtain ⟨x, hx⟩ : ∃ x, ks1[1]? = some x := ⟨_, List.getElem?_eq_getElem (by omega)⟩
      exact ⟨x, by rw [List.getElem?_drop]; exact hx, by unfold name1; rw [hx]⟩
    have HW := hid (fun (W : World) (hW : Below w.heap.size w W) => impl_wrongCases ds1 fs1 ads1 cds1 afs1 cfs1 hD (ks1.drop 1) b (o + 8) (cks1 - 1) (name1 ks1) W (by omega) hn0 hcn1 (hd.below hW) (hrd.below hW))
    have hw := fun d os => Calls.regrown_of (HW.out (grow (redrawn ((w.alloc (.cells #[.slice ads1 ds1.length cds1, .slice afs1 fs1.length cfs1] 32)).alloc (.cells #[.int .i64 9, .int .i64 u1, .string n1, .int .i64 tk1, .string tn1, .slice atks1 tks1.length ctks1, .slice ans1 ns1.length cns1, .slice (some ⟨b, o, none⟩) ks1.length cks1] 63)) d) os) (HBX.out.trans ((below_regrown _ d os).mono HBX.out.size)))
    rw [hdl] at hw
    generalize (!casesEq (ks1.drop 1) (consAt ds1 (conIdx ds1 (name1 ks1)))) = r at HF hw
    have HC := hid hw
    have hl3 : 1 ≤ ks1.length := by omega
    have hcc : ks1.length ≤ cks1 := h2
    have hcb : cks1 ≤ 9223372036854775807 := h3
    have er : ∀ (d : _) os, _ := fun d os => cell_regrown (heap_cell HX1.out (j := 7) rfl) d os
    have pr0 := cell_regrown (heap_cell HX0.out (j := 0) rfl)
    have pr1 := cell_regrown (heap_cell HX0.out (j := 1) rfl)
    clear hw HW hn0 hdl hrd h2 h3 h4 hrk hr hd ho hcn1 hbl
    go_enter Tryz.func37, Tryz.ntmps37
    go_wp2_with fail
    clear p0 p1 e0 e1 e2 e3 e4 e5 e6 e7
    generalize ((w.alloc (.cells #[.slice ads1 ds1.length cds1, .slice afs1 fs1.length cfs1] 32)).alloc (.cells #[.int .i64 9, .int .i64 u1, .string n1, .int .i64 tk1, .string tn1, .slice atks1 tks1.length ctks1, .slice ans1 ns1.length cns1, .slice (some ⟨b, o, none⟩) ks1.length cks1] 63)) = w0 at HC HBX er pr0 pr1 ⊢
    refine wp_region_quiet_below (by kernel_rfl) (by kernel_rfl) ?_
    repeat (go_big_quiet_step (exact HC.out _ _))
    refine wpQuiet_nil ?_
    intro w3 hw'
    obtain ⟨⟨dq, osq⟩, hw''⟩ := hw'
    have hb3 : Below w0.heap.size w0 w3 := by subst hw''; exact below_regrown w0 dq osq
    clear hw''
    clear er pr0 pr1
    go_wp2_with fail
    go_ret
    exact ⟨ret_bool HF.out.symm, HBX.out.trans (hb3.mono HBX.out.size)⟩
  case neg =>
    have g9 : (k1 == 9) = false := by simp [hk9]
    have HF := hid (wrongB_else ds1 hk8 hk9 u1 n1 (Ty.mk tk1 tn1 tks1) ns1 ks1)
    clear hk8 hk9 ho hr hd hM
    go_enter Tryz.func37, Tryz.ntmps37
    go_wp2_with fail
    go_ret
    exact ⟨ret_bool HF.out.symm, HBX.out⟩
theorem named1_kid' (ds : List Dat) (k u : Int) (n : ByteArray) (t : Ty) (ns : List ByteArray) (ks : List Tm) (j : Nat) (x : Tm) (h : named1 ds (.mk k u n t ns ks) ∧ Tm.bulk (.mk k u n t ns ks) ≤ 1048576) (hj : ks[j]? = some x) : named1 ds x ∧ Tm.bulk x ≤ 1048576 :=
  ⟨named1_kid h.1 hj, by have := Tm.bulk_get ks j x hj; have h2 := h.2; simp only [Tm.bulk] at h2; omega⟩
set_option maxRecDepth 100000 in
set_option maxHeartbeats 2000000 in
theorem impl_wrongD (ds1 : List Dat) (fs1 : List Df) (ads1 : Option Addr) (cds1 : Nat) (afs1 : Option Addr) (cfs1 : Nat) (hD : Dat.bulks ds1 ≤ 1048576) (pb : Nat) (n3 : ByteArray) (tk3 : Int) (tn3 : ByteArray) (tks3 : List Ty) (bk3 bu3 : Int) (bn3 : ByteArray) (btk3 : Int) (btn3 : ByteArray) (btks3 : List Ty) (bns3 : List ByteArray) (bks3 : List Tm) (atks3 : Option Addr) (ctks3 : Nat) (abtks3 : Option Addr) (cbtks3 : Nat) (abns3 : Option Addr) (cbns3 : Nat) (abks3 : Option Addr) (cbks3 : Nat) (w : World) (hMb : Tm.bulk (Tm.mk bk3 bu3 bn3 (Ty.mk btk3 btn3 btks3) bns3 bks3) ≤ 1048576) (hnm : named1 ds1 (Tm.mk bk3 bu3 bn3 (Ty.mk btk3 btn3 btks3) bns3 bks3)) (hg : PgG ds1 fs1 ads1 cds1 afs1 cfs1 pb w) (hr : RdS w (Df.d (Df.mk n3 (Ty.mk tk3 tn3 tks3) (Tm.mk bk3 bu3 bn3 (Ty.mk btk3 btn3 btks3) bns3 bks3))) [.string n3, .int .i64 tk3, .string tn3, .slice atks3 tks3.length ctks3, .int .i64 bk3, .int .i64 bu3, .string bn3, .int .i64 btk3, .string btn3, .slice abtks3 btks3.length cbtks3, .slice abns3 bns3.length cbns3, .slice abks3 bks3.length cbks3]) :
    Calls Tryz.prog 35 #[.agg #[.string n3, .int .i64 tk3, .string tn3, .slice atks3 tks3.length ctks3, .int .i64 bk3, .int .i64 bu3, .string bn3, .int .i64 btk3, .string btn3, .slice abtks3 btks3.length cbtks3, .slice abns3 bns3.length cbns3, .slice abks3 bks3.length cbks3], .pointer (some ⟨pb, 0, none⟩)] w fun e w' => e = .returned (.bool (wrongD ds1 (Df.mk n3 (Ty.mk tk3 tn3 tks3) (Tm.mk bk3 bu3 bn3 (Ty.mk btk3 btn3 btks3) bns3 bks3)))) ∧ Below w.heap.size w w' := by
  have hB := (Below.refl w.heap.size w).alloc (Nat.le_refl _) (.cells #[.string n3, .int .i64 tk3, .string tn3, .slice atks3 tks3.length ctks3, .int .i64 bk3, .int .i64 bu3, .string bn3, .int .i64 btk3, .string btn3, .slice abtks3 btks3.length cbtks3, .slice abns3 bns3.length cbns3, .slice abks3 bks3.length cbks3] 65)
  have hx := heap_alloc_new w (.cells #[.string n3, .int .i64 tk3, .string tn3, .slice atks3 tks3.length ctks3, .int .i64 bk3, .int .i64 bu3, .string bn3, .int .i64 btk3, .string btn3, .slice abtks3 btks3.length cbtks3, .slice abns3 bns3.length cbns3, .slice abks3 bks3.length cbks3] 65)
  have hg2 := hg.below hB
  have z0 := hg2.1
  have z1 := hg2.2.1
  have hco := anyTb_all 37 Tryz.call37 (.agg #[.slice ads1 ds1.length cds1, .slice afs1 fs1.length cfs1]) (wrongB ds1) (fun t => named1 ds1 t ∧ Tm.bulk t ≤ 1048576) (fun W => RdL W (Dat.ds ds1) (.slice ads1 ds1.length cds1)) (named1_kid' ds1) (fun x y hab h => h.below hab) (Tm.bulk (Tm.mk bk3 bu3 bn3 (Ty.mk btk3 btn3 btks3) bns3 bks3) + 1) (fun k1 u1 n1 tk1 tn1 tks1 ns1 ks1 atks1 ctks1 ans1 cns1 aks1 cks1 W _ ho hG hR => impl_wrongB ds1 fs1 ads1 cds1 afs1 cfs1 hD k1 u1 n1 tk1 tn1 tks1 ns1 ks1 atks1 ctks1 ans1 cns1 aks1 cks1 W ho.2 ho.1 hG hR) (Tm.bulk (Tm.mk bk3 bu3 bn3 (Ty.mk btk3 btn3 btks3) bns3 bks3) + 1) (Nat.le_refl _) bk3 bu3 bn3 btk3 btn3 btks3 bns3 bks3 abtks3 cbtks3 abns3 cbns3 abks3 cbks3 _ (by omega) ⟨hnm, hMb⟩ hg2.2.2.1 ((RdS.subDf_b hr).below hB)
  have HF := hid (show wrongD ds1 (Df.mk n3 (Ty.mk tk3 tn3 tks3) (Tm.mk bk3 bu3 bn3 (Ty.mk btk3 btn3 btks3) bns3 bks3)) = Tm.anyN (wrongB ds1) (Tm.mk bk3 bu3 bn3 (Ty.mk btk3 btn3 btks3) bns3 bks3) from rfl)
  generalize Tm.anyN (wrongB ds1) (Tm.mk bk3 bu3 bn3 (Ty.mk btk3 btn3 btks3) bns3 bks3) = r at hco HF
  have HC := hid hco
  have HB := hid hB
  have d0 := heap_cell hx (j := 0) rfl
  have d1 := heap_cell hx (j := 1) rfl
  have d2 := heap_cell hx (j := 2) rfl
  have d3 := heap_cell hx (j := 3) rfl
  have d4 := heap_cell hx (j := 4) rfl
  have d5 := heap_cell hx (j := 5) rfl
  have d6 := heap_cell hx (j := 6) rfl
  have d7 := heap_cell hx (j := 7) rfl
  have d8 := heap_cell hx (j := 8) rfl
  have d9 := heap_cell hx (j := 9) rfl
  have d10 := heap_cell hx (j := 10) rfl
  have d11 := heap_cell hx (j := 11) rfl
  clear hx hg2 hco hB hg hr hnm
  go_enter Tryz.func35, Tryz.ntmps35
  go_wp2_with fail
  refine HC.out.mono ?_
  rintro e w1 ⟨rfl, hb⟩
  have HB1 := hid (HB.out.trans (hb.mono HB.out.size))
  clear hb
  go_wp2_with fail
  go_ret
  exact ⟨ret_bool HF.out.symm, HB1.out⟩
set_option maxRecDepth 100000 in
set_option maxHeartbeats 2000000 in
theorem impl_CheckNames (ds1 : List Dat) (fs1 : List Df) (ads1 : Option Addr) (cds1 : Nat) (afs1 : Option Addr) (cfs1 : Nat) (w : World) (hM : Pg.bulk (Pg.mk ds1 fs1) ≤ 1048576) (hr : RdS w (Pg.d (Pg.mk ds1 fs1)) [.slice ads1 ds1.length cds1, .slice afs1 fs1.length cfs1]) :
    Calls Tryz.prog 16 #[.agg #[.slice ads1 ds1.length cds1, .slice afs1 fs1.length cfs1]] w fun e w' => e = .returned (.int .i64 (checkN (.mk ds1 fs1))) ∧ Below w.heap.size w w' := by
  have hB := (Below.refl w.heap.size w).alloc (Nat.le_refl _) (.cells #[.slice ads1 ds1.length cds1, .slice afs1 fs1.length cfs1] 32)
  have hx := heap_alloc_new w (.cells #[.slice ads1 ds1.length cds1, .slice afs1 fs1.length cfs1] 32)
  have HX := hid hx
  have HB := hid hB
  have hbp : Pg.bulk (Pg.mk ds1 fs1) = Dat.bulks ds1 + Df.bulks fs1 := rfl
  have hMD : Dat.bulks ds1 ≤ 1048576 := by omega
  have hMF : Df.bulks fs1 ≤ 1048576 := by omega
  have hbd : ∀ (j : Nat) (n3 : ByteArray) (tk3 : Int) (tn3 : ByteArray) (tks3 : List Ty) (bk3 bu3 : Int) (bn3 : ByteArray) (btk3 : Int) (btn3 : ByteArray) (btks3 : List Ty) (bns3 : List ByteArray) (bks3 : List Tm) (atks3 : Option Addr) (ctks3 : Nat) (abtks3 : Option Addr) (cbtks3 : Nat) (abns3 : Option Addr) (cbns3 : Nat) (abks3 : Option Addr) (cbks3 : Nat), fs1[j]? = some (Df.mk n3 (Ty.mk tk3 tn3 tks3) (Tm.mk bk3 bu3 bn3 (Ty.mk btk3 btn3 btks3) bns3 bks3)) → Tm.bulk (Tm.mk bk3 bu3 bn3 (Ty.mk btk3 btn3 btks3) bns3 bks3) ≤ 1048576 := fun j n3 tk3 tn3 tks3 bk3 bu3 bn3 btk3 btn3 btks3 bns3 bks3 atks3 ctks3 abtks3 cbtks3 abns3 cbns3 abks3 cbks3 hj => by have h1 := Df.bulk_get fs1 j _ hj; have h2 : Df.bulk (Df.mk n3 (Ty.mk tk3 tn3 tks3) (Tm.mk bk3 bu3 bn3 (Ty.mk btk3 btn3 btks3) bns3 bks3)) = n3.size + Ty.bulk (Ty.mk tk3 tn3 tks3) + Tm.bulk (Tm.mk bk3 bu3 bn3 (Ty.mk btk3 btn3 btks3) bns3 bks3) := rfl; omega
  have HC := hid (impl_ValidProgram ds1 fs1 ads1 cds1 afs1 cfs1 _ hM (hr.below hB))
  have e0 := heap_cell hx (j := 0) rfl
  have e1 := heap_cell hx (j := 1) rfl
  have HD := hid hr.fPg.1
  have HF := hid hr.fPg.2
  clear hx hB
  by_cases hok : progOk ds1 fs1 = true
  case neg =>
    have hf := (Bool.not_eq_true _).mp hok
    rw [hf] at HC
    have HE := hid (checkN_bad hf)
    clear hf hok hr hM hbp
    go_enter Tryz.func16, Tryz.ntmps16
    go_wp2_with fail
    refine HC.out.mono ?_
    rintro e w1 ⟨rfl, hb⟩
    have HB1 := hid (HB.out.trans (hb.mono HB.out.size))
    clear hb
    go_wp2_with fail
    go_ret
    exact ⟨ret_int HE.out.symm, HB1.out⟩
  case pos =>
  rw [hok] at HC
  have HOK := hid hok
  clear hok hr hM hbp
  go_enter Tryz.func16, Tryz.ntmps16
  go_wp2_with fail
  refine HC.out.mono ?_
  rintro e w1 ⟨rfl, hb⟩
  have HB1 := hid (HB.out.trans (hb.mono HB.out.size))
  have HX1 := hid (heap_liftc HX.out hb)
  have hun := contains_Df_b 34 Tryz.call34 (.agg #[.slice ads1 ds1.length cds1, .slice afs1 fs1.length cfs1]) (unknownD ds1 fs1) (fun W => RdL W (Dat.ds ds1) (.slice ads1 ds1.length cds1) ∧ RdL W (Df.ds fs1) (.slice afs1 fs1.length cfs1)) (fun x y hab h => ⟨h.1.below hab, h.2.below hab⟩) fs1 afs1 cfs1 w1 ⟨HD.out.below HB1.out, HF.out.below HB1.out⟩ (HF.out.below HB1.out) (fun n3 tk3 tn3 tks3 bk3 bu3 bn3 btk3 btn3 btks3 bns3 bks3 atks3 ctks3 abtks3 cbtks3 abns3 cbns3 abks3 cbks3 j W hj hG hR => impl_unknown ds1 fs1 ads1 cds1 afs1 cfs1 hMD n3 tk3 tn3 tks3 bk3 bu3 bn3 btk3 btn3 btks3 bns3 bks3 atks3 ctks3 abtks3 cbtks3 abns3 cbns3 abks3 cbks3 W (hbd j n3 tk3 tn3 tks3 bk3 bu3 bn3 btk3 btn3 btks3 bns3 bks3 atks3 ctks3 abtks3 cbtks3 abns3 cbns3 abks3 cbks3 hj) (prog_def HOK.out hj).1 (prog_def HOK.out hj).2 hG.1 hG.2 hR)
  have f0 := heap_cell HX1.out (j := 0) rfl
  have f1 := heap_cell HX1.out (j := 1) rfl
  clear hb e0 e1
  cases hq : fs1.any (unknownD ds1 fs1)
  case true =>
    rw [hq] at hun
    have HU := hid hun
    have HE := hid (checkN_name HOK.out hq)
    clear hun hq
    go_wp2_with fail
    refine HU.out.mono ?_
    rintro e w2 ⟨rfl, hb⟩
    have HB2 := hid (HB1.out.trans (hb.mono HB1.out.size))
    clear hb
    go_wp2_with fail
    go_ret
    exact ⟨ret_int HE.out.symm, HB2.out⟩
  case false =>
    rw [hq] at hun
    have HU := hid hun
    have HQ := hid hq
    clear hun hq
    go_wp2_with fail
    refine HU.out.mono ?_
    rintro e w2 ⟨rfl, hb⟩
    have HB2 := hid (HB1.out.trans (hb.mono HB1.out.size))
    have HX2 := hid (heap_liftc HX1.out hb)
    have hwr := contains_Df_1 35 Tryz.call35 (.pointer (some ⟨w.heap.size, 0, none⟩)) (wrongD ds1) (PgG ds1 fs1 ads1 cds1 afs1 cfs1 w.heap.size) (fun x y hab h => h.below hab) fs1 afs1 cfs1 w2 ⟨heap_cell HX2.out (j := 0) rfl, heap_cell HX2.out (j := 1) rfl, HD.out.below HB2.out, HF.out.below HB2.out⟩ (HF.out.below HB2.out) (fun n3 tk3 tn3 tks3 bk3 bu3 bn3 btk3 btn3 btks3 bns3 bks3 atks3 ctks3 abtks3 cbtks3 abns3 cbns3 abks3 cbks3 j W hj hG hR => impl_wrongD ds1 fs1 ads1 cds1 afs1 cfs1 hMD w.heap.size n3 tk3 tn3 tks3 bk3 bu3 bn3 btk3 btn3 btks3 bns3 bks3 atks3 ctks3 abtks3 cbtks3 abns3 cbns3 abks3 cbks3 W (hbd j n3 tk3 tn3 tks3 bk3 bu3 bn3 btk3 btn3 btks3 bns3 bks3 atks3 ctks3 abtks3 cbtks3 abns3 cbns3 abks3 cbks3 hj) ⟨(prog_def HOK.out hj).2, by have h := any_g HQ.out hj; rw [unknownD_mk, Bool.or_eq_false_iff, Bool.or_eq_false_iff] at h; exact h.2.2⟩ hG hR)
    have g0 := heap_cell HX2.out (j := 0) rfl
    have g1 := heap_cell HX2.out (j := 1) rfl
    clear hb f0 f1
    cases hq : fs1.any (wrongD ds1)
    case true =>
      rw [hq] at hwr
      have HW := hid hwr
      have HE := hid (checkN_range HOK.out HQ.out hq)
      clear hwr hq
      go_wp2_with fail
      refine HW.out.mono ?_
      rintro e w3 ⟨rfl, hb⟩
      have HB3 := hid (HB2.out.trans (hb.mono HB2.out.size))
      clear hb
      go_wp2_with fail
      go_ret
      exact ⟨ret_int HE.out.symm, HB3.out⟩
    case false =>
      rw [hq] at hwr
      have HW := hid hwr
      have HE := hid (checkN_ok HOK.out HQ.out hq)
      clear hwr hq
      go_wp2_with fail
      refine HW.out.mono ?_
      rintro e w3 ⟨rfl, hb⟩
      have HB3 := hid (HB2.out.trans (hb.mono HB2.out.size))
      clear hb
      go_wp2_with fail
      go_ret
      exact ⟨ret_int HE.out.symm, HB3.out⟩
end Go.Proofs.YtgpefnlpbjnjbaaGreat
