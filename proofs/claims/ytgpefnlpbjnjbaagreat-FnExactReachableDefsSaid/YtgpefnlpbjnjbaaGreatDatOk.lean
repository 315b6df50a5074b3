/- Walks: ValidDatas, in the reference. -/
import Derived.Test.YtgpefnlpbjnjbaaGreatDatCons
import Derived.Test.YtgpefnlpbjnjbaaGreatKeep
namespace Go.Proofs.YtgpefnlpbjnjbaaGreat
open Go.ChangeShapes Go.WideShapes Go.ChangeAt Go.RowKit Go.BigFrame
open Go.Sort (grow)
set_option linter.unusedVariables false

theorem infoStr : (Tryz.prog.info? 9).map (fun i => (i.zero, i.size, i.bytes)) = some (some (.string ByteArray.empty), 1, 16) := by kernel_rfl
/-- Names in a row of the call's own. -/
def NamesAt (B : Nat) (sn : List ByteArray) (v : Value) (w : World) : Prop := w.ownsRow B 9 1 v sn.length (sn.map Value.string)
theorem NamesAt.open {B : Nat} {sn : List ByteArray} {v : Value} {w : World} (h : NamesAt B sn v w) : ∃ a c, v = .slice a sn.length c ∧ (0 < sn.length → ∃ g, a = some ⟨g, 0, none⟩ ∧ ∀ p t, sn[p]? = some t → w.cell? ⟨g, p, none⟩ = some (.string t)) := by
  have h0 := h
  rcases h.2 with ⟨rfl, hn⟩ | ⟨g, cap, cur, rfl, _⟩
  · exact ⟨none, 0, by rw [hn], fun hp => by omega⟩
  · refine ⟨some ⟨g, 0, none⟩, cap, rfl, fun _ => ⟨g, rfl, fun p t hp => ?_⟩⟩
    have := h0.cells (g := g) rfl p (.string t) (by rw [List.getElem?_map, hp]; rfl)
    rw [Addr.add_lit] at this
    simpa using this
theorem NamesAt.below {B : Nat} {sn : List ByteArray} {v : Value} {w w' : World} (h : NamesAt B sn v w) (hb : Below w.heap.size w w') : NamesAt B sn v w' := ownsRow.below h hb
theorem drop_get {α : Type} {l : List α} {j : Nat} {t : α} (h : l[j]? = some t) : l.drop j = t :: l.drop (j + 1) := by
  have hj : j < l.length := (List.getElem?_eq_some_iff.1 h).1
  have := (List.getElem?_eq_some_iff.1 h).2
  rw [List.drop_eq_getElem_cons hj, this]
theorem headOk_eq (ts : List Dat) (i : Nat) (n : ByteArray) (qs : List Con) : headOk ts i (.mk n qs) = (isUpperB n && (!(n.toList == [73, 110, 116]) && (decide (named ts n = i) && inR qs.length 1 4))) := rfl

set_option maxRecDepth 100000 in
set_option maxHeartbeats 4000000 in
theorem spec_l02Ok (ts : List Dat) (a : Option Addr) (c : Nat) (w : World) (hM : Dat.bulks ts ≤ 1048576) (hd : RdL w (Dat.ds ts) (.slice a ts.length c)) :
    Calls Tryz.prog 80 #[.slice a ts.length c] w fun e w' => e = .returned (.bool (datasOk ts)) ∧ Below w.heap.size w w' := by
  obtain ⟨i0, hi, hz0, hz1, hz2⟩ := info_parts infoStr
  have HI := hid hi
  have hlen := Dat.bulks_length ts
  by_cases h4 : 4 < ts.length
  case pos =>
    have hb : decide ((4 : Int) < ts.length) = true := by simp; omega
    have HF := hid (show datasOk ts = false by rw [datasOk, show decide (ts.length ≤ 4) = false from decide_eq_false (by omega)]; rfl)
    clear h4 hd hM hlen hi hz0 hz1 hz2
    go_enter Tryz.func80, Tryz.ntmps80
    go_wp2_with fail
    go_ret
    exact ⟨ret_bool HF.out.symm, Below.refl _ _⟩
  case neg =>
  have hb : decide ((4 : Int) < ts.length) = false := by simp; omega
  have HF := hid (show datasOk ts = datsFrom ts ts 0 [] by rw [datasOk, show decide (ts.length ≤ 4) = true from decide_eq_true (by omega)]; rfl)
  have HD := hid hd
  obtain ⟨_, _, e, h2, h3, h4'⟩ := hd.eDat
  simp only [Value.slice.injEq, true_and] at e
  obtain ⟨rfl, rfl⟩ := e
  have H4 := hid h4'
  have HM := hid hM
  have hts4 : ts.length ≤ 4 := by omega
  clear hd h4' hM hlen h4 h2 h3 hi
  go_enter Tryz.func80, Tryz.ntmps80
  go_wp2_with fail
  go_loopw [3, 4] (fun v i wr => ∃ (j : Nat) (seen : List ByteArray) (sa : Option Addr) (sc : Nat), j ≤ ts.length ∧ i = .int .i64 j ∧ v = .slice sa seen.length sc ∧ seen.length ≤ 4 * j ∧ Hid (NamesAt w.heap.size seen (.slice sa seen.length sc) wr) ∧ Hid (datsFrom ts ts 0 [] = datsFrom ts (ts.drop j) j seen) ∧ Below w.heap.size w wr) (fun _ i _ => ts.length - (intOf i).toNat)
  case atStart => exact ⟨0, [], some ⟨w.heap.size, 0, none⟩, 0, by omega, rfl, rfl, by simp, World.ownsRow_made w #[] 0 (Nat.le_refl _) (by unfold maxLen; omega) rfl, rfl, (Below.refl _ _).alloc (Nat.le_refl _) _⟩
  case round =>
    obtain ⟨j, seen, sa, sc, hj, rfl, rfl, hsl, HOW, HJ, hbw0⟩ := hrel
    by_cases hlt : j < ts.length
    case neg =>
      go_wp2_with fail
      go_ret
      exact ⟨ret_bool (by rw [HF.out, HJ.out, List.drop_eq_nil_of_le (by omega), datsFrom]), hbw0⟩
    case pos =>
    obtain ⟨b, o, rfl, hbl, hall⟩ := H4.out (by omega)
    obtain ⟨t, ht⟩ : ∃ t, ts[j]? = some t := ⟨_, List.getElem?_eq_getElem hlt⟩
    obtain ⟨n1, qs1⟩ := t
    obtain ⟨aqs1, cqs1, q0, q1, hrk⟩ := hall j n1 qs1 ht
    clear hall H4
    have HT := hid ht
    have hbg := Dat.bulk_get ts j _ ht
    have hbk : Dat.bulk (.mk n1 qs1) = n1.size + Con.bulks qs1 := rfl
    have HMQ := hid (show Con.bulks qs1 ≤ 1048576 by have := HM.out; omega)
    have hql := Con.bulks_length qs1
    have hql2 : qs1.length ≤ 1048576 := by have := HM.out; omega
    have hqf := hrk.fDat.2
    obtain ⟨_, _, e, k2, k3, k4⟩ := hqf.eCon
    simp only [Value.slice.injEq, true_and] at e
    obtain ⟨rfl, rfl⟩ := e
    have HQ4 := hid k4
    have d0 := (hbw0.cell (p := ⟨b, o + j * 2, none⟩) hbl).trans q0
    have d1 := (hbw0.cell (p := ⟨b, o + j * 2 + 1, none⟩) hbl).trans q1
    have HBW0 := hid hbw0
    have HHD := hid (show datsFrom ts (ts.drop j) j seen = (headOk ts j (.mk n1 qs1) && (match consFrom ts qs1 seen with | some s => datsFrom ts (ts.drop (j + 1)) (j + 1) s | none => false)) by rw [drop_get ht, datsFrom]; rfl)
    have hHE := headOk_eq ts j n1 qs1
    -- the box of d
    have hbx : Below wr.heap.size wr (wr.alloc (.cells #[.string n1, .slice aqs1 qs1.length cqs1] 95)) := (Below.refl _ _).alloc (Nat.le_refl _) _
    have HX0 := hid ((Boxes.nil wr).alloc #[.string n1, .slice aqs1 qs1.length cqs1] 95 (0, 0))
    have HV := hid (spec_IsUpper n1 (wr.alloc (.cells #[.string n1, .slice aqs1 qs1.length cqs1] 95)))
    have hnm := fun W (hW : Below wr.heap.size wr W) => spec_Named ts (some ⟨b, o, none⟩) c n1 W ((HD.out.below HBW0.out).below hW)
    have HBX := hid hbx
    have HOW1 := hid (HOW.out.below hbx)
    clear hqf k2 k3 k4 hrk ht q0 q1 hbw0 hbg hbk hql hbx
    by_cases t1 : isUpperB n1 = true
    case neg =>
      replace t1 := (Bool.not_eq_true _).mp t1
      have HHF := hid (show headOk ts j (.mk n1 qs1) = false by rw [hHE, t1]; rfl)
      have HU := hid t1
      clear t1 hHE hnm
      go_wp2_with fail
      refine HV.out.mono ?_
      rw [HU.out]
      rintro e w1 ⟨rfl, hb1⟩
      have HBY := hid (HBX.out.trans (hb1.mono HBX.out.size))
      have HX1 := hid (HX0.out.below hb1)
      have HOW2 := hid (HOW1.out.below hb1)
      have HB1 := hid hb1
      clear hb1 d0 d1
      go_wp2_with fail
      go_ret
      exact ⟨ret_bool (by rw [HF.out, HJ.out, HHD.out, HHF.out]; rfl), HBW0.out.trans (HBY.out.mono HBW0.out.size)⟩
    case pos =>
    have HU := hid t1
    by_cases t2 : (n1.toList == [73, 110, 116]) = true
    case pos =>
      have HHF := hid (show headOk ts j (.mk n1 qs1) = false by rw [hHE, t2]; simp)
      clear t1 hHE hnm
      go_wp2_with fail
      refine HV.out.mono ?_
      rw [HU.out]
      rintro e w1 ⟨rfl, hb1⟩
      have HBY := hid (HBX.out.trans (hb1.mono HBX.out.size))
      have HX1 := hid (HX0.out.below hb1)
      have HOW2 := hid (HOW1.out.below hb1)
      have HB1 := hid hb1
      clear hb1 d0 d1
      have g0 := HX1.out.at 0 0 rfl rfl
      have g1 := HX1.out.at 0 1 rfl rfl
      go_wp2_with fail
      clear g0 g1
      go_ret
      exact ⟨ret_bool (by rw [HF.out, HJ.out, HHD.out, HHF.out]; rfl), HBW0.out.trans (HBY.out.mono HBW0.out.size)⟩
    case neg =>
    replace t2 := (Bool.not_eq_true _).mp t2
    have HNM := hid hnm
    clear hnm
    by_cases t3 : named ts n1 = (j : Int)
    case neg =>
      have HHF := hid (show headOk ts j (.mk n1 qs1) = false by rw [hHE]; simp [t3])
      have t3b : (named ts n1 != (j : Int)) = true := by simp [t3]
      generalize named ts n1 = m at HNM t3b
      clear t1 hHE t3
      go_wp2_with fail
      refine HV.out.mono ?_
      rw [HU.out]
      rintro e w1 ⟨rfl, hb1⟩
      have HBY := hid (HBX.out.trans (hb1.mono HBX.out.size))
      have HX1 := hid (HX0.out.below hb1)
      have HOW2 := hid (HOW1.out.below hb1)
      have HB1 := hid hb1
      clear hb1 d0 d1
      have g0 := HX1.out.at 0 0 rfl rfl
      have g1 := HX1.out.at 0 1 rfl rfl
      go_wp2_with fail
      refine (HNM.out _ HBY.out).mono ?_
      rintro e w2 ⟨rfl, rfl⟩
      go_wp2_with fail
      clear g0 g1
      go_ret
      exact ⟨ret_bool (by rw [HF.out, HJ.out, HHD.out, HHF.out]; rfl), HBW0.out.trans (HBY.out.mono HBW0.out.size)⟩
    case pos =>
    have HN3 := hid t3
    rw [t3] at HNM
    by_cases t4 : qs1.length < 1
    case pos =>
      have HHF := hid (show headOk ts j (.mk n1 qs1) = false by rw [hHE, inR_f (by omega)]; simp)
      have t4b : decide ((qs1.length : Int) < 1) = true := by simp <;> omega
      clear t1 hHE t3 t4
      go_wp2_with fail
      refine HV.out.mono ?_
      rw [HU.out]
      rintro e w1 ⟨rfl, hb1⟩
      have HBY := hid (HBX.out.trans (hb1.mono HBX.out.size))
      have HX1 := hid (HX0.out.below hb1)
      have HOW2 := hid (HOW1.out.below hb1)
      have HB1 := hid hb1
      clear hb1 d0 d1
      have g0 := HX1.out.at 0 0 rfl rfl
      have g1 := HX1.out.at 0 1 rfl rfl
      go_wp2_with fail
      refine (HNM.out _ HBY.out).mono ?_
      rintro e w2 ⟨rfl, rfl⟩
      go_wp2_with fail
      clear g0 g1
      go_ret
      exact ⟨ret_bool (by rw [HF.out, HJ.out, HHD.out, HHF.out]; rfl), HBW0.out.trans (HBY.out.mono HBW0.out.size)⟩
    case neg =>
    have t4b : decide ((qs1.length : Int) < 1) = false := by simp <;> omega
    by_cases t5 : 4 < qs1.length
    case pos =>
      have HHF := hid (show headOk ts j (.mk n1 qs1) = false by rw [hHE, inR_f (by omega)]; simp)
      have t5b : decide ((4 : Int) < qs1.length) = true := by simp <;> omega
      clear t1 hHE t3 t4 t5
      go_wp2_with fail
      refine HV.out.mono ?_
      rw [HU.out]
      rintro e w1 ⟨rfl, hb1⟩
      have HBY := hid (HBX.out.trans (hb1.mono HBX.out.size))
      have HX1 := hid (HX0.out.below hb1)
      have HOW2 := hid (HOW1.out.below hb1)
      have HB1 := hid hb1
      clear hb1 d0 d1
      have g0 := HX1.out.at 0 0 rfl rfl
      have g1 := HX1.out.at 0 1 rfl rfl
      go_wp2_with fail
      refine (HNM.out _ HBY.out).mono ?_
      rintro e w2 ⟨rfl, rfl⟩
      go_wp2_with fail
      clear g0 g1
      go_ret
      exact ⟨ret_bool (by rw [HF.out, HJ.out, HHD.out, HHF.out]; rfl), HBW0.out.trans (HBY.out.mono HBW0.out.size)⟩
    case neg =>
    have t5b : decide ((4 : Int) < qs1.length) = false := by simp <;> omega
    have HHT := hid (show headOk ts j (.mk n1 qs1) = true by rw [hHE, t1, t2, t3, inR_t (by omega) (by omega)]; simp)
    have hq4 : qs1.length ≤ 4 := by omega
    clear t1 hHE t3 t4 t5
    go_wp2_with fail
    refine HV.out.mono ?_
    rw [HU.out]
    rintro e w1 ⟨rfl, hb1⟩
    have HBY := hid (HBX.out.trans (hb1.mono HBX.out.size))
    have HX1 := hid (HX0.out.below hb1)
    have HOW2 := hid (HOW1.out.below hb1)
    have HB1 := hid hb1
    clear hb1 d0 d1
    have g0 := HX1.out.at 0 0 rfl rfl
    have g1 := HX1.out.at 0 1 rfl rfl
    go_wp2_with fail
    refine (HNM.out _ HBY.out).mono ?_
    rintro e w2 ⟨rfl, rfl⟩
    go_wp2_with fail
    clear g0 g1
    obtain ⟨wo, hwo⟩ : ∃ wo, wo = wr := ⟨_, rfl⟩
    subst wr
    go_loopw [3, 6] (fun v k wk => ∃ (m : Nat) (sn : List ByteArray) (na : Option Addr) (nc : Nat), m ≤ qs1.length ∧ k = .int .i64 m ∧ v = .slice na sn.length nc ∧ sn.length ≤ seen.length + m ∧ Hid (NamesAt w.heap.size sn (.slice na sn.length nc) wk) ∧ Hid (consFrom ts qs1 seen = consFrom ts (qs1.drop m) sn) ∧ Below w.heap.size w wk ∧ Hid (wk.heap[wo.heap.size]? = some (.cells #[.string n1, .slice aqs1 qs1.length cqs1] 95))) (fun _ k _ => qs1.length - (intOf k).toNat)
    case atStart =>
      exact ⟨0, seen, sa, sc, by omega, rfl, rfl, by omega, HOW2.out, rfl, HBW0.out.trans (HBY.out.mono HBW0.out.size), (HB1.out.block _ (by simp)).trans (heap_alloc_new wo _)⟩
    case round =>
      obtain ⟨m, sn, na, nc, hm, rfl, rfl, hsl2, HOK, HJ2, hbk, HBH⟩ := hrel
      have z0 := heap_cell (j := 0) HBH.out rfl
      have z1 := heap_cell (j := 1) HBH.out rfl
      by_cases hlk : m < qs1.length
      case neg =>
        have HJ3 := hid (show datsFrom ts ts 0 [] = datsFrom ts (ts.drop (j + 1)) (j + 1) sn by rw [HJ.out, HHD.out, HHT.out, HJ2.out, List.drop_eq_nil_of_le (by omega), consFrom]; rfl)
        go_wp2_with fail
        go_roundw
        case rel => exact ⟨j + 1, sn, na, nc, by omega, by go_num, rfl, by omega, HOK.out, HJ3.out, hbk⟩
        case measure => simp [intOf]; omega
      case pos =>
        obtain ⟨b2, o2, ea, hbl2, hall2⟩ := HQ4.out (by omega)
        subst ea
        obtain ⟨t, ht⟩ : ∃ t, qs1[m]? = some t := ⟨_, List.getElem?_eq_getElem hlk⟩
        obtain ⟨n3, fs3⟩ := t
        obtain ⟨afs3, cfs3, q0, q1, hrk3⟩ := hall2 m n3 fs3 ht
        have hbg3 := Con.bulk_get qs1 m _ ht
        have HCO := hid (show consFrom ts (qs1.drop m) sn = if conOk ts (.mk n3 fs3) && !hasStr sn n3 then consFrom ts (qs1.drop (m + 1)) (sn ++ [n3]) else none by rw [drop_get ht, consFrom]; rfl)
        have hc1 := spec_Cons ts (some ⟨b, o, none⟩) c n3 fs3 afs3 cfs3 wr (by have := HMQ.out; omega) (HD.out.below hbk) (hrk3.below hbk)
        have d0 := (hbk.cell (p := ⟨b2, o2 + m * 2, none⟩) hbl2).trans q0
        have d1 := (hbk.cell (p := ⟨b2, o2 + m * 2 + 1, none⟩) hbl2).trans q1
        have E0 := hid d0
        have bl3 : b2 < wr.heap.size := Nat.lt_of_lt_of_le hbl2 hbk.size
        have HBK := hid hbk
        have hwk : wo.heap.size < wr.heap.size := (Array.getElem?_eq_some_iff.1 HBH.out).1
        clear hall2 hrk3 q0 q1 ht hbg3 hbk
        by_cases hco : conOk ts (.mk n3 fs3) = true
        case neg =>
          replace hco := (Bool.not_eq_true _).mp hco
          have HNO := hid (show datsFrom ts ts 0 [] = false by rw [HJ.out, HHD.out, HHT.out, HJ2.out, HCO.out, hco]; rfl)
          rw [hco] at hc1
          have HC1 := hid hc1
          clear hc1 hco
          go_wp2_with fail
          refine HC1.out.mono ?_
          rintro e w4 ⟨rfl, hb4⟩
          have hbz := HBK.out.trans (hb4.mono HBK.out.size)
          clear hb4 d0 d1 z0 z1
          go_wp2_with fail
          go_ret
          exact ⟨ret_bool (by rw [HF.out, HNO.out]), hbz⟩
        case pos =>
          have HCT1 := hid hco
          rw [hco] at hc1
          have HC1 := hid hc1
          clear hc1 hco
          go_wp2_with fail
          refine HC1.out.mono ?_
          rintro e w4 ⟨rfl, hb4⟩
          have HOK4 := hid (HOK.out.below hb4)
          have HBH4 := hid ((hb4.block _ hwk).trans HBH.out)
          have E04 := hid ((hb4.cell (p := ⟨b2, o2 + m * 2, none⟩) bl3).trans E0.out)
          have HBK4 := hid (HBK.out.trans (hb4.mono HBK.out.size))
          have hwk4 : wo.heap.size < w4.heap.size := Nat.lt_of_lt_of_le hwk hb4.size
          have bl4 : b2 < w4.heap.size := Nat.lt_of_lt_of_le bl3 hb4.size
          clear hb4 d0 d1 z0 z1 HC1
          go_wp2_with fail
          go_loopw [7] (fun p wl => ∃ (x : Nat), x ≤ sn.length ∧ p = .int .i64 x ∧ Hid (∀ (i : Nat) t, i < x → sn[i]? = some t → t ≠ n3) ∧ Below w4.heap.size w4 wl) (fun p _ => sn.length - (intOf p).toNat)
          case atStart => exact ⟨0, by omega, rfl, fun i t hi => absurd hi (by omega), Below.refl _ _⟩
          case round =>
            obtain ⟨x, hx, rfl, HJX, hb5⟩ := hrel
            have HOK5 := hid (HOK4.out.below hb5)
            have HBH5 := hid ((hb5.block _ hwk4).trans HBH4.out)
            have z1 := heap_cell (j := 1) HBH5.out rfl
            have e0 := (hb5.cell (p := ⟨b2, o2 + m * 2, none⟩) bl4).trans E04.out
            have HBK5 := hid (HBK4.out.trans (hb5.mono HBK4.out.size))
            obtain ⟨na', nc', hna, hget⟩ := HOK5.out.open
            simp only [Value.slice.injEq, true_and] at hna
            obtain ⟨rfl, rfl⟩ := hna
            have HB5 := hid hb5
            clear hb5
            by_cases hlx : x < sn.length
            case pos =>
              obtain ⟨g, rfl, hcells⟩ := hget (by omega)
              obtain ⟨t, ht⟩ : ∃ t, sn[x]? = some t := ⟨_, List.getElem?_eq_getElem hlx⟩
              have r0 := cell_regrown (hcells x t ht)
              have r1 := cell_regrown z1
              have r2 := cell_regrown e0
              have HTX := hid ht
              clear hcells ht
              by_cases he : t = n3
              case pos =>
                have heb := bytes_eq he
                have HNO := hid (show datsFrom ts ts 0 [] = false by
                  rw [HJ.out, HHD.out, HHT.out, HJ2.out, HCO.out, HCT1.out, hasStr_yes (he ▸ HTX.out)]; rfl)
                clear he
                go_wp2_with fail
                refine wp_region_quiet_below (by kernel_rfl) (by kernel_rfl) ?_
                repeat (go_big_quiet_step (fail))
                refine wpQuiet_nil ?_
                intro _ hw'
                obtain ⟨⟨dq, osq⟩, hw''⟩ := hw'
                subst hw''
                have hbz := HBK5.out.trans ((below_regrown wr dq osq).mono HBK5.out.size)
                clear r0 r1 r2 z1 e0
                go_wp2_with fail
                go_ret
                exact ⟨ret_bool (by rw [HF.out, HNO.out]), hbz⟩
              case neg =>
                have heb := bytes_ne he
                have HNE := hid he
                clear he
                go_wp2_with fail
                refine wp_region_quiet_below (by kernel_rfl) (by kernel_rfl) ?_
                repeat (go_big_quiet_step (fail))
                refine wpQuiet_nil ?_
                intro _ hw'
                obtain ⟨⟨dq, osq⟩, hw''⟩ := hw'
                subst hw''
                have hbz := HB5.out.trans ((below_regrown wr dq osq).mono HB5.out.size)
                clear r0 r1 r2 z1 e0
                go_wp2_with fail
                go_roundw
                case rel => exact ⟨x + 1, by omega, by go_num, fun i t hi hti => (Nat.lt_succ_iff_lt_or_eq.1 hi).elim (fun hi => HJX.out i t hi hti) (fun he => by subst he; obtain rfl := Option.some.inj (hti.symm.trans HTX.out); exact HNE.out), hbz⟩
                case measure => simp [intOf]; omega
            case neg =>
              have hns : hasStr sn n3 = false := hasStr_no fun i t hti => HJX.out i t (by have := (List.getElem?_eq_some_iff.1 hti).1; omega) hti
              have HCN := hid (show consFrom ts qs1 seen = consFrom ts (qs1.drop (m + 1)) (sn ++ [n3]) by rw [HJ2.out, HCO.out, HCT1.out, hns]; rfl)
              have hszl : w.heap.size ≤ wr.heap.size := HBK5.out.size
              clear hget hns
              go_wp2_with (at_builtin; refine wpList_append_own _ rfl _ _ 60 rfl w.heap.size 9 i0 (.string ByteArray.empty) 1 16 Tryz.underlying60 HI.out hz0 hz1 hz2 rfl (by decide) _ _ _ rfl (HOK5.out.alloc _) ⟨wr.heap.size, 0, none⟩ 1 1 [.string n3] rfl rfl ?c1 ?c2 ?c3 ?c4 ?c5 ?_)
              case c1 => exact one_new wr _ _
              case c2 => intro y hy; simp at hy; subst hy; rfl
              case c3 => unfold maxLen; omega
              case c4 => omega
              case c5 => simp; omega
              intro v' w6 hown6 hgrow6 hnil6
              have hna6 : NamesAt w.heap.size (sn ++ [n3]) v' w6 := by unfold NamesAt; simpa using hown6
              obtain ⟨a6, c6, rfl, -⟩ := hna6.open
              have HNA6 := hid hna6
              have HBH6 := hid (KeepT.of_grown (HOK5.out.alloc _) hgrow6 _ _ _ _ ((Below.heap_alloc wr (.cells #[.string n3] 9) _ (Nat.lt_of_lt_of_le hwk4 HB5.out.size)).trans HBH5.out) (by decide))
              have HBK6 := hid ((HBK5.out.alloc hszl (.cells #[.string n3] 9)).grown hgrow6 (by simp; omega) (fun y hy => ((HOK5.out.alloc (.cells #[.string n3] 9)).lt y hy).1))
              clear hna6 hown6 hgrow6 hnil6 z1 e0
              go_wp2_with fail
              go_roundw
              case rel => exact ⟨m + 1, sn ++ [n3], a6, c6, by omega, by go_num, rfl, by simp; omega, HNA6.out, HCN.out, HBK6.out, HBH6.out⟩
              case measure => simp [intOf]; omega
end Go.Proofs.YtgpefnlpbjnjbaaGreat
