/- Walks: FindConstructor. -/
import Derived.Test.YtdllmbbdhfnikaaDatOkI
namespace Go.Proofs.Ytdllmbbdhfnikaa
open Go.ChangeShapes Go.WideShapes Go.ChangeAt Go.RowKit Go.BigFrame
open Go.Sort (grow)
set_option linter.unusedVariables false

def conIs (nm : ByteArray) : Con → Bool
  | .mk n _ => decide (n = nm)
/-- The declaration and the tag of a constructor, from the declaration i on. -/
def conOf (nm : ByteArray) : List Dat → Int → Int × Int
  | [], _ => (-1, -1)
  | d :: ds, i => if 0 ≤ fstAt (conIs nm) (datCons d) then (i, fstAt (conIs nm) (datCons d)) else conOf nm ds (i + 1)
/-- The tag that the program hands back: 0 where there is none. -/
def tagOf (r : Int × Int) : Int := if r.1 < 0 then 0 else r.2
theorem tagOf_no {r1 r2 : Int} (h : r1 < 0) : tagOf (r1, r2) = 0 := if_pos h
theorem tagOf_yes {r1 r2 : Int} (h : 0 ≤ r1) : tagOf (r1, r2) = r2 := if_neg (by simp only []; omega)
def foundC (ts : List Dat) (nm : ByteArray) : Int × Int × Bool := if datasOk ts && decide (0 ≤ (conOf nm ts 0).1) then ((conOf nm ts 0).1, (conOf nm ts 0).2, true) else (0, 0, false)
theorem conOf_step (nm : ByteArray) (ts : List Dat) (j : Nat) (n : ByteArray) (qs : List Con) (h : ts[j]? = some (.mk n qs)) : conOf nm (ts.drop j) j = if 0 ≤ fstAt (conIs nm) qs then ((j : Int), fstAt (conIs nm) qs) else conOf nm (ts.drop (j + 1)) ((j + 1 : Nat) : Int) := by
  rw [drop_get h, conOf]; rfl
theorem spec_Con (ts : List Dat) (a : Option Addr) (c : Nat) (nm : ByteArray) (w : World) (hM : Dat.bulks ts ≤ 1048576) (hd : RdL w (Dat.ds ts) (.slice a ts.length c)) :
    Calls Try.prog 79 #[.slice a ts.length c, .string nm] w fun e w' => e = .returned (.tuple #[.int .i64 (conOf nm ts 0).1, .int .i64 (conOf nm ts 0).2]) ∧ Below w.heap.size w w' := by
  have hlen := Dat.bulks_length ts
  obtain ⟨_, _, e, h2, h3, h4'⟩ := hd.eDat
  simp only [Value.slice.injEq, true_and] at e
  obtain ⟨rfl, rfl⟩ := e
  have H4 := hid h4'
  have HM := hid hM
  have hl2 : ts.length ≤ 1048576 := by omega
  clear hd h4' hM hlen h2 h3
  go_enter Try.func79, Try.ntmps79
  go_wp2_with fail
  go_loopw [6] (fun i wr => ∃ (j : Nat), j ≤ ts.length ∧ i = .int .i64 j ∧ Hid (conOf nm ts 0 = conOf nm (ts.drop j) j) ∧ w = wr) (fun i _ => ts.length - (intOf i).toNat)
  case atStart => exact ⟨0, by omega, rfl, rfl, rfl⟩
  case round =>
    obtain ⟨j, hj, rfl, HJ, rfl⟩ := hrel
    by_cases hlt : j < ts.length
    case neg =>
      have HE := hid (show conOf nm ts 0 = (-1, -1) by rw [HJ.out, List.drop_eq_nil_of_le (by omega), conOf])
      go_wp2_with fail
      go_ret2
      exact ⟨by rw [HE.out]; rfl, Below.refl _ _⟩
    case pos =>
    obtain ⟨b, o, rfl, hbl, hall⟩ := H4.out (by omega)
    obtain ⟨t, ht⟩ : ∃ t, ts[j]? = some t := ⟨_, List.getElem?_eq_getElem hlt⟩
    obtain ⟨n1, qs1⟩ := t
    obtain ⟨aqs1, cqs1, q0, q1, hrk⟩ := hall j n1 qs1 ht
    clear hall H4
    have hbg := Dat.bulk_get ts j _ ht
    have hbk : Dat.bulk (.mk n1 qs1) = n1.size + Con.bulks qs1 := rfl
    have hql := Con.bulks_length qs1
    have hql2 : qs1.length ≤ 1048576 := by have := HM.out; omega
    obtain ⟨_, _, e, k2, k3, k4⟩ := hrk.fDat.2.eCon
    simp only [Value.slice.injEq, true_and] at e
    obtain ⟨rfl, rfl⟩ := e
    have HQ4 := hid k4
    have HST := hid (conOf_step nm ts j n1 qs1 ht)
    have d1 := q1
    clear k2 k3 k4 hrk ht q0 q1 hbg hbk hql
    go_wp2_with fail
    go_loopw [7] (fun k wk => ∃ (m : Nat), m ≤ qs1.length ∧ k = .int .i64 m ∧ Hid (∀ (i : Nat) t, i < m → qs1[i]? = some t → conIs nm t = false) ∧ w = wk) (fun k _ => qs1.length - (intOf k).toNat)
    case atStart => exact ⟨0, by omega, rfl, fun i t hi => absurd hi (by omega), rfl⟩
    case round =>
      obtain ⟨m, hm, rfl, HK, rfl⟩ := hrel
      by_cases hlk : m < qs1.length
      case neg =>
        have HE := hid (show conOf nm ts 0 = conOf nm (ts.drop (j + 1)) ((j + 1 : Nat) : Int) by
          rw [HJ.out, HST.out, fstAt_no _ qs1 fun i t hti => HK.out i t (by have := (List.getElem?_eq_some_iff.1 hti).1; omega) hti]; rfl)
        go_wp2_with fail
        go_roundw
        case rel => exact ⟨j + 1, by omega, by go_num, HE.out, by first | rfl | trivial⟩
        case measure => simp [intOf]; omega
      case pos =>
        obtain ⟨b2, o2, ea, hbl2, hall2⟩ := HQ4.out (by omega)
        subst ea
        obtain ⟨t, ht⟩ : ∃ t, qs1[m]? = some t := ⟨_, List.getElem?_eq_getElem hlk⟩
        obtain ⟨n3, fs3⟩ := t
        obtain ⟨afs3, cfs3, q0, q1, hrk3⟩ := hall2 m n3 fs3 ht
        have HT := hid ht
        have e0 := q0
        clear hall2 hrk3 q0 q1 ht
        by_cases hq : n3 = nm
        case pos =>
          have hb := bytes_eq hq
          have HQ := hid (show conIs nm (.mk n3 fs3) = true by simp [conIs, hq])
          have HE := hid (show conOf nm ts 0 = ((j : Int), (m : Int)) by
            rw [HJ.out, HST.out, fstAt_yes _ qs1 m _ HT.out HQ.out HK.out, if_pos (by omega)])
          clear hq
          go_wp2_with fail
          go_ret2
          exact ⟨by rw [HE.out]; rfl, Below.refl _ _⟩
        case neg =>
          have hb := bytes_ne hq
          have HQ := hid (show conIs nm (.mk n3 fs3) = false by simp [conIs, hq])
          clear hq
          go_wp2_with fail
          go_roundw
          case rel => exact ⟨m + 1, by omega, by go_num, fun i t hi hti => (Nat.lt_succ_iff_lt_or_eq.1 hi).elim (fun hi => HK.out i t hi hti) (fun he => by subst he; obtain rfl := Option.some.inj (hti.symm.trans HT.out); exact HQ.out), by first | rfl | trivial⟩
          case measure => simp [intOf]; omega
theorem impl_Con (ts : List Dat) (a : Option Addr) (c : Nat) (nm : ByteArray) (w : World) (hM : Dat.bulks ts ≤ 1048576) (hd : RdL w (Dat.ds ts) (.slice a ts.length c)) :
    Calls Try.prog 80 #[.slice a ts.length c, .string nm] w fun e w' => e = .returned (.tuple #[.int .i64 (conOf nm ts 0).1, .int .i64 (tagOf (conOf nm ts 0))]) ∧ Below w.heap.size w w' := by
  have hlen := Dat.bulks_length ts
  obtain ⟨_, _, e, h2, h3, h4'⟩ := hd.eDat
  simp only [Value.slice.injEq, true_and] at e
  obtain ⟨rfl, rfl⟩ := e
  have H4 := hid h4'
  have HM := hid hM
  have hl2 : ts.length ≤ 1048576 := by omega
  clear hd h4' hM hlen h2 h3
  go_enter Try.func80, Try.ntmps80
  go_wp2_with fail
  go_loopw [12] (fun i wr => ∃ (j : Nat), j ≤ ts.length ∧ i = .int .i64 j ∧ Hid (conOf nm ts 0 = conOf nm (ts.drop j) j) ∧ Below w.heap.size w wr) (fun i _ => ts.length - (intOf i).toNat)
  case atStart => exact ⟨0, by omega, rfl, rfl, Below.refl _ _⟩
  case round =>
    obtain ⟨j, hj, rfl, HJ, hbw0⟩ := hrel
    by_cases hlt : j < ts.length
    case neg =>
      have HE := hid (show conOf nm ts 0 = (-1, -1) by rw [HJ.out, List.drop_eq_nil_of_le (by omega), conOf])
      go_wp2_with fail
      go_ret2
      exact ⟨by rw [HE.out]; rfl, hbw0⟩
    case pos =>
    obtain ⟨b, o, rfl, hbl, hall⟩ := H4.out (by omega)
    obtain ⟨t, ht⟩ : ∃ t, ts[j]? = some t := ⟨_, List.getElem?_eq_getElem hlt⟩
    obtain ⟨n1, qs1⟩ := t
    obtain ⟨aqs1, cqs1, q0, q1, hrk⟩ := hall j n1 qs1 ht
    clear hall H4
    have hbg := Dat.bulk_get ts j _ ht
    have hbk : Dat.bulk (.mk n1 qs1) = n1.size + Con.bulks qs1 := rfl
    have hql := Con.bulks_length qs1
    have hql2 : qs1.length ≤ 1048576 := by have := HM.out; omega
    obtain ⟨_, _, e, k2, k3, k4⟩ := hrk.fDat.2.eCon
    simp only [Value.slice.injEq, true_and] at e
    obtain ⟨rfl, rfl⟩ := e
    have HQ4 := hid k4
    have HST := hid (conOf_step nm ts j n1 qs1 ht)
    have d0 := (hbw0.cell (p := ⟨b, o + j * 2, none⟩) hbl).trans q0
    have d1 := (hbw0.cell (p := ⟨b, o + j * 2 + 1, none⟩) hbl).trans q1
    have hbx0 := hbw0.alloc hbw0.size (.cells #[.string n1, .slice aqs1 qs1.length cqs1] 85)
    have HBX0 := hid hbx0
    clear k2 k3 k4 hrk ht q0 q1 hbg hbk hql hbw0 hbx0
    go_wp2_with fail
    clear d0 d1
    go_loopw [20] (fun k wk => ∃ (m : Nat), m ≤ qs1.length ∧ k = .int .i64 m ∧ Hid (∀ (i : Nat) t, i < m → qs1[i]? = some t → conIs nm t = false) ∧ Below w.heap.size w wk) (fun k _ => qs1.length - (intOf k).toNat)
    case atStart => exact ⟨0, by omega, rfl, fun i t hi => absurd hi (by omega), HBX0.out⟩
    case round =>
      obtain ⟨m, hm, rfl, HK, hbw1⟩ := hrel
      by_cases hlk : m < qs1.length
      case neg =>
        have HE := hid (show conOf nm ts 0 = conOf nm (ts.drop (j + 1)) ((j + 1 : Nat) : Int) by
          rw [HJ.out, HST.out, fstAt_no _ qs1 fun i t hti => HK.out i t (by have := (List.getElem?_eq_some_iff.1 hti).1; omega) hti]; rfl)
        go_wp2_with fail
        go_roundw
        case rel => exact ⟨j + 1, by omega, by go_num, HE.out, hbw1⟩
        case measure => simp [intOf]; omega
      case pos =>
        obtain ⟨b2, o2, ea, hbl2, hall2⟩ := HQ4.out (by omega)
        subst ea
        obtain ⟨t, ht⟩ : ∃ t, qs1[m]? = some t := ⟨_, List.getElem?_eq_getElem hlk⟩
        obtain ⟨n3, fs3⟩ := t
        obtain ⟨afs3, cfs3, q0, q1, hrk3⟩ := hall2 m n3 fs3 ht
        have HT := hid ht
        have e0 := (hbw1.cell (p := ⟨b2, o2 + m * 2, none⟩) hbl2).trans q0
        have e1 := (hbw1.cell (p := ⟨b2, o2 + m * 2 + 1, none⟩) hbl2).trans q1
        have hbx1 := hbw1.alloc hbw1.size (.cells #[.string n3, .slice afs3 fs3.length cfs3] 91)
        have HBX1 := hid hbx1
        clear hbw1 hbx1
        clear hall2 hrk3 q0 q1 ht
        by_cases hq : n3 = nm
        case pos =>
          have hb := bytes_eq hq
          have HQ := hid (show conIs nm (.mk n3 fs3) = true by simp [conIs, hq])
          have HE := hid (show conOf nm ts 0 = ((j : Int), (m : Int)) by
            rw [HJ.out, HST.out, fstAt_yes _ qs1 m _ HT.out HQ.out HK.out, if_pos (by omega)])
          clear hq
          go_wp2_with fail
          go_ret2
          exact ⟨by rw [HE.out]; rw [tagOf_yes (by omega)]; rfl, HBX1.out⟩
        case neg =>
          have hb := bytes_ne hq
          have HQ := hid (show conIs nm (.mk n3 fs3) = false by simp [conIs, hq])
          clear hq
          go_wp2_with fail
          go_roundw
          case rel => exact ⟨m + 1, by omega, by go_num, fun i t hi hti => (Nat.lt_succ_iff_lt_or_eq.1 hi).elim (fun hi => HK.out i t hi hti) (fun he => by subst he; obtain rfl := Option.some.inj (hti.symm.trans HT.out); exact HQ.out), HBX1.out⟩
          case measure => simp [intOf]; omega
theorem spec_FindConstructor (ts : List Dat) (a : Option Addr) (c : Nat) (nm : ByteArray) (w : World) (hM : Dat.bulks ts ≤ 1048576) (hd : RdL w (Dat.ds ts) (.slice a ts.length c)) :
    Calls Try.prog 41 #[.slice a ts.length c, .string nm] w fun e w' => e = .returned (.tuple #[.int .i64 (foundC ts nm).1, .int .i64 (foundC ts nm).2.1, .bool (foundC ts nm).2.2]) ∧ Below w.heap.size w w' := by
  have hc := spec_l02Ok ts a c w hM hd
  have hn := fun W (hW : Below w.heap.size w W) => spec_Con ts a c nm W hM (hd.below hW)
  by_cases hk : datasOk ts = true
  case neg =>
    replace hk := (Bool.not_eq_true _).mp hk
    have HF := hid (show foundC ts nm = (0, 0, false) by simp [foundC, hk])
    rw [hk] at hc
    have HC := hid hc
    clear hc hk hd hM hn
    go_enter Try.func41, Try.ntmps41
    go_wp2_with fail
    refine HC.out.mono ?_
    rintro e w1 ⟨rfl, hb⟩
    have HB := hid hb
    clear hb
    go_wp2_with fail
    go_ret3
    exact ⟨by rw [HF.out]; rfl, HB.out⟩
  case pos =>
    have HF := hid (show foundC ts nm = (if 0 ≤ (conOf nm ts 0).1 then ((conOf nm ts 0).1, (conOf nm ts 0).2, true) else (0, 0, false)) by simp [foundC, hk])
    generalize conOf nm ts 0 = r at HF hn
    obtain ⟨r1, r2⟩ := r
    by_cases hq : 0 ≤ r1
    all_goals
      rw [hk] at hc
      have HC := hid hc
      simp only [] at HF
      first
        | (rw [if_pos hq] at HF; have hqb : decide (r1 < 0) = false := by simp; omega)
        | (rw [if_neg hq] at HF; have hqb : decide (r1 < 0) = true := by simp; omega)
      have HN := hid hn
      clear hc hk hd hM hn hq
      go_enter Try.func41, Try.ntmps41
      go_wp2_with fail
      refine HC.out.mono ?_
      rintro e w1 ⟨rfl, hb⟩
      have HB := hid hb
      clear hb
      go_wp2_with fail
      refine (HN.out _ HB.out).mono ?_
      rintro e w2 ⟨rfl, hb⟩
      have HB2 := hid (HB.out.trans (hb.mono HB.out.size))
      clear hb
      go_wp2_with fail
      go_ret3
      exact ⟨by rw [HF.out]; rfl, HB2.out⟩
theorem impl_FindConstructor (ts : List Dat) (a : Option Addr) (c : Nat) (nm : ByteArray) (w : World) (hM : Dat.bulks ts ≤ 1048576) (hd : RdL w (Dat.ds ts) (.slice a ts.length c)) :
    Calls Try.prog 42 #[.slice a ts.length c, .string nm] w fun e w' => e = .returned (.tuple #[.int .i64 (foundC ts nm).1, .int .i64 (foundC ts nm).2.1, .bool (foundC ts nm).2.2]) ∧ Below w.heap.size w w' := by
  have hn := impl_Con ts a c nm w hM hd
  have hc := fun W (hW : Below w.heap.size w W) => impl_ValidDatas ts a c W hM (hd.below hW)
  by_cases hk : datasOk ts = true
  case neg =>
    replace hk := (Bool.not_eq_true _).mp hk
    have HF := hid (show foundC ts nm = (0, 0, false) by simp [foundC, hk])
    rw [hk] at hc
    have HC := hid hc
    generalize tagOf (conOf nm ts 0) = s at hn
    generalize (conOf nm ts 0).1 = r at hn
    have HN := hid hn
    clear hc hk hd hM hn
    go_enter Try.func42, Try.ntmps42
    go_wp2_with fail
    refine HN.out.mono ?_
    rintro e w1 ⟨rfl, hb⟩
    have HB := hid hb
    clear hb
    go_wp2_with fail
    refine (HC.out _ HB.out).mono ?_
    rintro e w2 ⟨rfl, hb⟩
    have HB2 := hid (HB.out.trans (hb.mono HB.out.size))
    clear hb
    go_wp2_with fail
    go_ret3
    exact ⟨by rw [HF.out]; rfl, HB2.out⟩
  case pos =>
    have HF := hid (show foundC ts nm = (if 0 ≤ (conOf nm ts 0).1 then ((conOf nm ts 0).1, (conOf nm ts 0).2, true) else (0, 0, false)) by simp [foundC, hk])
    generalize conOf nm ts 0 = r at HF hn
    obtain ⟨r1, r2⟩ := r
    by_cases hq : 0 ≤ r1
    all_goals
      rw [hk] at hc
      have HC := hid hc
      simp only [] at HF hn
      first
        | (rw [if_pos hq] at HF; rw [tagOf_yes hq] at hn; have hqb : decide (r1 < 0) = false := by simp; omega)
        | (rw [if_neg hq] at HF; rw [tagOf_no (by omega)] at hn; have hqb : decide (r1 < 0) = true := by simp; omega)
      have HN := hid hn
      clear hc hk hd hM hn hq
      go_enter Try.func42, Try.ntmps42
      go_wp2_with fail
      refine HN.out.mono ?_
      rintro e w1 ⟨rfl, hb⟩
      have HB := hid hb
      clear hb
      go_wp2_with fail
      refine (HC.out _ HB.out).mono ?_
      rintro e w2 ⟨rfl, hb⟩
      have HB2 := hid (HB.out.trans (hb.mono HB.out.size))
      clear hb
      go_wp2_with fail
      go_ret3
      exact ⟨by rw [HF.out]; rfl, HB2.out⟩
end Go.Proofs.Ytdllmbbdhfnikaa
