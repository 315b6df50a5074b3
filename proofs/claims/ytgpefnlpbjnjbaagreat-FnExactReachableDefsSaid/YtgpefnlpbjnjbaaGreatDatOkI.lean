/- Walks: ValidDatas, in the program. -/
import Derived.Test.YtgpefnlpbjnjbaaGreatDatImpl
import Derived.Test.YtgpefnlpbjnjbaaGreatDatOk
import Derived.Test.YtgpefnlpbjnjbaaGreatTake
import Derived.StringKeys
import Derived.Lib.QuietBelow
import Derived.BigQuiet
namespace Go.Proofs.YtgpefnlpbjnjbaaGreat
open Go.ChangeShapes Go.WideShapes Go.ChangeAt Go.RowKit Go.BigFrame
open Go.Sort (grow)
set_option linter.unusedVariables false

theorem fstAt_take {α : Type} (p : α → Bool) : ∀ (ts : List α) (j : Nat) (t : α), ts[j]? = some t → p t = true → decide (0 ≤ fstAt p (ts.take j)) = !decide (fstAt p ts = (j : Int))
  | [], j, t, h, _ => by simp at h
  | u :: ts, 0, t, h, hp => by simp at h; subst h; simp [fstAt, hp]
  | u :: ts, j + 1, t, h, hp => by
    have ih := fstAt_take p ts j t (by simpa using h) hp
    have g1 := fstAt_ge p ts
    have g2 := fstAt_ge p (ts.take j)
    rw [List.take_succ_cons, fstAt, fstAt]
    by_cases hu : p u = true
    · simp only [hu, if_true]; simp; omega
    · simp only [hu]
      by_cases h1 : 0 ≤ fstAt p (ts.take j)
      · rw [decide_eq_true h1] at ih
        have h2 : ¬ fstAt p ts = (j : Int) := by intro e; simp [e] at ih
        by_cases h3 : fstAt p ts < 0
        · have e1 : ¬ fstAt p (ts.take j) < 0 := by omega
          simp only [h3, e1, if_true, if_false]; rw [decide_eq_true (by omega), decide_eq_false (by omega)]; rfl
        · have e1 : ¬ fstAt p (ts.take j) < 0 := by omega
          simp only [h3, e1, if_false]; rw [decide_eq_true (by omega), decide_eq_false (by omega)]; rfl
      · rw [decide_eq_false h1] at ih
        have h2 : fstAt p ts = (j : Int) := by
          by_cases e : fstAt p ts = (j : Int)
          · exact e
          · simp [e] at ih
        have e1 : fstAt p (ts.take j) < 0 := by omega
        have e2 : ¬ fstAt p ts < 0 := by omega
        rw [if_neg (by simp), if_pos e1, if_neg (by simp), if_neg e2, decide_eq_false (show ¬ (0 : Int) ≤ -1 by omega), decide_eq_true (show fstAt p ts + 1 = ((j + 1 : Nat) : Int) by omega)]; rfl
theorem Dat.ds_take : ∀ (ts : List Dat) (i : Nat), Dat.ds (ts.take i) = (Dat.ds ts).take i
  | [], i => by simp [Dat.ds]
  | t :: ts, 0 => by simp [Dat.ds]
  | t :: ts, i + 1 => by rw [List.take_succ_cons, Dat.ds, Dat.ds, List.take_succ_cons, Dat.ds_take ts i]
def SeenAt (B : Nat) (sn : List ByteArray) (w : World) : Prop := w.ownsMap Tryz.prog 9 (plainElem (H := Unit) Tryz.prog 4) B sn.length (seenD sn)
theorem SeenAt.below {B : Nat} {sn : List ByteArray} {w w' : World} (h : SeenAt B sn w) (hb : Below w.heap.size w w') : SeenAt B sn w' := by
  have hlt := World.ownsMap.lt h
  obtain ⟨es, clock, h1, h2, h3, h4⟩ := h
  exact ⟨es, clock, (hb.block _ hlt).trans h1, h2, h3, h4⟩
theorem zeroBool (w : World) : (zeroValue 4).run Tryz.prog w = .ok (.bool false) w := by kernel_rfl
theorem SeenAt.look {B : Nat} {sn : List ByteArray} {w : World} (h : SeenAt B sn w) (s : ByteArray) (hs : s.size ≤ maxLen) : (Instr.lookup 140 (.map (some B)) (.string s) false).run Tryz.prog w = .ok (.bool (hasStr sn s)) w := by
  obtain ⟨v, ps, hrun, hv⟩ := World.ownsMap.lookup h (Go.Maps.string_keyed Tryz.underlying9) Tryz.underlying140 (zeroBool w) (plainElem_bool Tryz.underlying4 false) (WideMaps.keyOf_string_mk Tryz.underlying9 hs)
  rw [seen_at] at hv
  rw [hrun, plain_bool_inv Tryz.underlying4 hv]

set_option maxRecDepth 100000 in
set_option maxHeartbeats 4000000 in
theorem impl_ValidDatas (ts : List Dat) (a : Option Addr) (c : Nat) (w : World) (hM : Dat.bulks ts ≤ 1048576) (hd : RdL w (Dat.ds ts) (.slice a ts.length c)) :
    Calls Tryz.prog 61 #[.slice a ts.length c] w fun e w' => e = .returned (.bool (datasOk ts)) ∧ Below w.heap.size w w' := by
  have hmm := @run_makeMap Tryz.prog
  have hlen := Dat.bulks_length ts
  by_cases h4 : 4 < ts.length
  case pos =>
    have hb : decide ((4 : Int) < ts.length) = true := by simp; omega
    have HF := hid (show datasOk ts = false by rw [datasOk, show decide (ts.length ≤ 4) = false from decide_eq_false (by omega)]; rfl)
    clear h4 hd hM hlen
    go_enter Tryz.func61, Tryz.ntmps61
    go_wp2_with fail
    go_ret
    exact ⟨ret_bool HF.out.symm, Below.refl _ _⟩
  case neg =>
  have hb : decide ((4 : Int) < ts.length) = false := by simp; omega
  have HF := hid (show datasOk ts = datsFrom ts ts 0 [] by rw [datasOk, show decide (ts.length ≤ 4) = true from decide_eq_true (by omega)]; rfl)
  have HD := hid hd
  obtain ⟨_, _, e, h2, h3, h4'⟩ := hd.eDat
  simp only [Value.slice.injEq, true_and] at e
  obtain ⟨rfl, rfl⟩ := e
  have H4 := hid h4'
  have HM := hid hM
  have hts4 : ts.length ≤ 4 := by omega
  have hcap : ts.length ≤ c := by omega
  clear hd h4' hM hlen h4 h2 h3
  go_enter Tryz.func61, Tryz.ntmps61
  go_wp2_with fail
  go_loopw [14] (fun i wr => ∃ (j : Nat) (seen : List ByteArray), j ≤ ts.length ∧ i = .int .i64 j ∧ seen.length ≤ 4 * j ∧ Hid (SeenAt w.heap.size seen wr) ∧ Hid (datsFrom ts ts 0 [] = datsFrom ts (ts.drop j) j seen) ∧ Below w.heap.size w wr) (fun i _ => ts.length - (intOf i).toNat)
  case atStart => exact ⟨0, [], by omega, rfl, by simp, World.ownsMap_made _ _ _ _, rfl, (Below.refl _ _).alloc (Nat.le_refl _) _⟩
  case round =>
    obtain ⟨j, seen, hj, rfl, hsl, HOW, HJ, hbw0⟩ := hrel
    by_cases hlt : j < ts.length
    case neg =>
      go_wp2_with fail
      go_ret
      exact ⟨ret_bool (by rw [HF.out, HJ.out, List.drop_eq_nil_of_le (by omega), datsFrom]), hbw0⟩
    case pos =>
    obtain ⟨wo, hwo⟩ : ∃ wo, wo = wr := ⟨_, rfl⟩
    subst wr
    obtain ⟨b, o, rfl, hbl, hall⟩ := H4.out (by omega)
    obtain ⟨t, ht⟩ : ∃ t, ts[j]? = some t := ⟨_, List.getElem?_eq_getElem hlt⟩
    obtain ⟨n1, qs1⟩ := t
    obtain ⟨aqs1, cqs1, q0, q1, hrk⟩ := hall j n1 qs1 ht
    clear hall H4
    have HT := hid ht
    have hbg := Dat.bulk_get ts j _ ht
    have hbk : Dat.bulk (.mk n1 qs1) = n1.size + Con.bulks qs1 := rfl
    have HMQ := hid (show Con.bulks qs1 ≤ 1048576 by have := HM.out; omega)
    have hql := Con.bulks_length qs1
    have hql2 : qs1.length ≤ 1048576 := by have := HM.out; omega
    have hqf := hrk.fDat.2
    obtain ⟨_, _, e, k2, k3, k4⟩ := hqf.eCon
    simp only [Value.slice.injEq, true_and] at e
    obtain ⟨rfl, rfl⟩ := e
    have HQ4 := hid k4
    have d0 := (hbw0.cell (p := ⟨b, o + j * 2, none⟩) hbl).trans q0
    have d1 := (hbw0.cell (p := ⟨b, o + j * 2 + 1, none⟩) hbl).trans q1
    have HBW0 := hid hbw0
    have HHD := hid (show datsFrom ts (ts.drop j) j seen = (headOk ts j (.mk n1 qs1) && (match consFrom ts qs1 seen with | some s => datsFrom ts (ts.drop (j + 1)) (j + 1) s | none => false)) by rw [drop_get ht, datsFrom]; rfl)
    have hHE := headOk_eq ts j n1 qs1
    have hbx : Below wo.heap.size wo (wo.alloc (.cells #[.string n1, .slice aqs1 qs1.length cqs1] 95)) := (Below.refl _ _).alloc (Nat.le_refl _) _
    have hbx0 := hbw0.trans (hbx.mono hbw0.size)
    have HX0 := hid ((Boxes.nil wo).alloc #[.string n1, .slice aqs1 qs1.length cqs1] 95 (0, 0))
    have hv := fun d os => Calls.regrown_of (impl_IsUpper n1 (grow (redrawn (wo.alloc (.cells #[.string n1, .slice aqs1 qs1.length cqs1] 95)) d) os))
    have hfd := fun d os => Calls.regrown_of (impl_findData (ts.take j) (some ⟨b, o, none⟩) c n1 (grow (redrawn (wo.alloc (.cells #[.string n1, .slice aqs1 qs1.length cqs1] 95)) d) os) (by rw [Dat.ds_take, List.length_take, Nat.min_eq_left hj]; exact ((HD.out.takeD hj).below hbx0).below (below_regrown _ d os)))
    simp only [List.length_take, Nat.min_eq_left hj] at hfd
    have hft := fstAt_take (datIs n1) ts j (.mk n1 qs1) ht (by simp [datIs])
    have HBX := hid hbx
    have HBX0 := hid hbx0
    have HOW1 := hid (HOW.out.below hbx)
    have e0 := cell_regrown (HX0.out.at 0 0 rfl rfl)
    have e1 := cell_regrown (HX0.out.at 0 1 rfl rfl)
    clear hqf k2 k3 k4 hrk ht q0 q1 hbw0 hbg hbk hql hbx hbx0
    by_cases t1 : isUpperB n1 = true
    case neg =>
      replace t1 := (Bool.not_eq_true _).mp t1
      have HHF := hid (show headOk ts j (.mk n1 qs1) = false by rw [hHE, t1]; rfl)
      rw [t1] at hv
      have HV := hid hv
      have HFD := hid hfd
      clear t1 hHE hv hfd hft
      go_wp2_with fail
      refine wp_region_quiet_below (by kernel_rfl) (by kernel_rfl) ?_
      repeat (go_big_quiet_step (first | exact HV.out _ _ | exact HFD.out _ _))
      refine wpQuiet_nil ?_
      intro _ hw'
      obtain ⟨⟨dq, osq⟩, hw''⟩ := hw'
      subst hw''
      have hbr := below_regrown (wo.alloc (.cells #[.string n1, .slice aqs1 qs1.length cqs1] 95)) dq osq
      have HBZ := hid (HBX0.out.trans (hbr.mono HBX0.out.size))
      clear HV HFD hbr d0 d1 e0 e1
      go_wp2_with fail
      go_ret
      exact ⟨ret_bool (by rw [HF.out, HJ.out, HHD.out, HHF.out]; rfl), HBZ.out⟩
    case pos =>
    rw [t1] at hv
    have HV := hid hv
    clear hv
    by_cases t2 : (n1.toList == [73, 110, 116]) = true
    case pos =>
      have HHF := hid (show headOk ts j (.mk n1 qs1) = false by rw [hHE, t2]; simp)
      have HFD := hid hfd
      clear t1 hHE hfd hft
      go_wp2_with fail
      refine wp_region_quiet_below (by kernel_rfl) (by kernel_rfl) ?_
      repeat (go_big_quiet_step (first | exact HV.out _ _ | exact HFD.out _ _))
      refine wpQuiet_nil ?_
      intro _ hw'
      obtain ⟨⟨dq, osq⟩, hw''⟩ := hw'
      subst hw''
      have hbr := below_regrown (wo.alloc (.cells #[.string n1, .slice aqs1 qs1.length cqs1] 95)) dq osq
      have HBZ := hid (HBX0.out.trans (hbr.mono HBX0.out.size))
      clear HV HFD hbr d0 d1 e0 e1
      go_wp2_with fail
      go_ret
      exact ⟨ret_bool (by rw [HF.out, HJ.out, HHD.out, HHF.out]; rfl), HBZ.out⟩
    case neg =>
    replace t2 := (Bool.not_eq_true _).mp t2
    have hftn : decide (0 ≤ named (ts.take j) n1) = !decide (named ts n1 = (j : Int)) := hft
    clear hft
    by_cases t3 : named ts n1 = (j : Int)
    case neg =>
      have HHF := hid (show headOk ts j (.mk n1 qs1) = false by rw [hHE]; simp [t3])
      rw [decide_eq_false t3] at hftn
      generalize named (ts.take j) n1 = m at hfd hftn
      have t3b : decide (0 ≤ m) = true := hftn
      have HFD := hid hfd
      clear t1 hHE t3 hfd hftn
      go_wp2_with fail
      refine wp_region_quiet_below (by kernel_rfl) (by kernel_rfl) ?_
      repeat (go_big_quiet_step (first | exact HV.out _ _ | exact HFD.out _ _))
      refine wpQuiet_nil ?_
      intro _ hw'
      obtain ⟨⟨dq, osq⟩, hw''⟩ := hw'
      subst hw''
      have hbr := below_regrown (wo.alloc (.cells #[.string n1, .slice aqs1 qs1.length cqs1] 95)) dq osq
      have HBZ := hid (HBX0.out.trans (hbr.mono HBX0.out.size))
      clear HV HFD hbr d0 d1 e0 e1
      go_wp2_with fail
      go_ret
      exact ⟨ret_bool (by rw [HF.out, HJ.out, HHD.out, HHF.out]; rfl), HBZ.out⟩
    case pos =>
    rw [decide_eq_true t3] at hftn
    generalize named (ts.take j) n1 = m at hfd hftn
    have t3b : decide (0 ≤ m) = false := hftn
    have HFD := hid hfd
    clear hfd hftn
    by_cases t4 : qs1.length < 1
    case pos =>
      have HHF := hid (show headOk ts j (.mk n1 qs1) = false by rw [hHE, inR_f (by omega)]; simp)
      have t4b : decide ((qs1.length : Int) < 1) = true := by simp <;> omega
      clear t1 hHE t3 t4
      go_wp2_with fail
      refine wp_region_quiet_below (by kernel_rfl) (by kernel_rfl) ?_
      repeat (go_big_quiet_step (first | exact HV.out _ _ | exact HFD.out _ _))
      refine wpQuiet_nil ?_
      intro _ hw'
      obtain ⟨⟨dq, osq⟩, hw''⟩ := hw'
      subst hw''
      have hbr := below_regrown (wo.alloc (.cells #[.string n1, .slice aqs1 qs1.length cqs1] 95)) dq osq
      have HBZ := hid (HBX0.out.trans (hbr.mono HBX0.out.size))
      clear HV HFD hbr d0 d1 e0 e1
      go_wp2_with fail
      go_ret
      exact ⟨ret_bool (by rw [HF.out, HJ.out, HHD.out, HHF.out]; rfl), HBZ.out⟩
    case neg =>
    have t4b : decide ((qs1.length : Int) < 1) = false := by simp <;> omega
    by_cases t5 : 4 < qs1.length
    case pos =>
      have HHF := hid (show headOk ts j (.mk n1 qs1) = false by rw [hHE, inR_f (by omega)]; simp)
      have t5b : decide ((4 : Int) < qs1.length) = true := by simp <;> omega
      clear t1 hHE t3 t4 t5
      go_wp2_with fail
      refine wp_region_quiet_below (by kernel_rfl) (by kernel_rfl) ?_
      repeat (go_big_quiet_step (first | exact HV.out _ _ | exact HFD.out _ _))
      refine wpQuiet_nil ?_
      intro _ hw'
      obtain ⟨⟨dq, osq⟩, hw''⟩ := hw'
      subst hw''
      have hbr := below_regrown (wo.alloc (.cells #[.string n1, .slice aqs1 qs1.length cqs1] 95)) dq osq
      have HBZ := hid (HBX0.out.trans (hbr.mono HBX0.out.size))
      clear HV HFD hbr d0 d1 e0 e1
      go_wp2_with fail
      go_ret
      exact ⟨ret_bool (by rw [HF.out, HJ.out, HHD.out, HHF.out]; rfl), HBZ.out⟩
    case neg =>
    have t5b : decide ((4 : Int) < qs1.length) = false := by simp <;> omega
    have HHT := hid (show headOk ts j (.mk n1 qs1) = true by rw [hHE, t1, t2, t3, inR_t (by omega) (by omega)]; simp)
    have hq4 : qs1.length ≤ 4 := by omega
    clear t1 hHE t3 t4 t5
    go_wp2_with fail
    refine wp_region_quiet_below (by kernel_rfl) (by kernel_rfl) ?_
    repeat (go_big_quiet_step (first | exact HV.out _ _ | exact HFD.out _ _))
    refine wpQuiet_nil ?_
    intro _ hw'
    obtain ⟨⟨dq, osq⟩, hw''⟩ := hw'
    subst hw''
    have hbr := below_regrown (wo.alloc (.cells #[.string n1, .slice aqs1 qs1.length cqs1] 95)) dq osq
    have HBZ := hid (HBX0.out.trans (hbr.mono HBX0.out.size))
    have HXZ := hid (HX0.out.below hbr)
    have HOWZ := hid (HOW1.out.below hbr)
    clear HV HFD hbr d0 d1 e0 e1
    have g1 := HXZ.out.at 0 1 rfl rfl
    go_wp2_with fail
    clear g1
    go_loopw [52] (fun k wk => ∃ (m : Nat) (sn : List ByteArray), m ≤ qs1.length ∧ k = .int .i64 m ∧ sn.length ≤ seen.length + m ∧ Hid (SeenAt w.heap.size sn wk) ∧ Hid (consFrom ts qs1 seen = consFrom ts (qs1.drop m) sn) ∧ Below w.heap.size w wk) (fun k _ => qs1.length - (intOf k).toNat)
    case atStart => exact ⟨0, seen, by omega, rfl, by omega, HOWZ.out, rfl, HBZ.out⟩
    case round =>
      obtain ⟨m, sn, hm, rfl, hsl2, HOK, HJ2, hbk⟩ := hrel
      by_cases hlk : m < qs1.length
      case neg =>
        have HJ3 := hid (show datsFrom ts ts 0 [] = datsFrom ts (ts.drop (j + 1)) (j + 1) sn by rw [HJ.out, HHD.out, HHT.out, HJ2.out, List.drop_eq_nil_of_le (by omega), consFrom]; rfl)
        go_wp2_with fail
        go_roundw
        case rel => exact ⟨j + 1, sn, by omega, by go_num, by omega, HOK.out, HJ3.out, hbk⟩
        case measure => simp [intOf]; omega
      case pos =>
        obtain ⟨b2, o2, ea, hbl2, hall2⟩ := HQ4.out (by omega)
        subst ea
        obtain ⟨t, ht⟩ : ∃ t, qs1[m]? = some t := ⟨_, List.getElem?_eq_getElem hlk⟩
        obtain ⟨n3, fs3⟩ := t
        obtain ⟨afs3, cfs3, q0, q1, hrk3⟩ := hall2 m n3 fs3 ht
        have hbg3 := Con.bulk_get qs1 m _ ht
        have hbk3 : Con.bulk (.mk n3 fs3) = n3.size + Ty.bulks fs3 := rfl
        have HCO := hid (show consFrom ts (qs1.drop m) sn = if conOk ts (.mk n3 fs3) && !hasStr sn n3 then consFrom ts (qs1.drop (m + 1)) (sn ++ [n3]) else none by rw [drop_get ht, consFrom]; rfl)
        have hn3 : n3.size ≤ maxLen := by have := HMQ.out; unfold maxLen; omega
        have hbx : Below wr.heap.size wr (wr.alloc (.cells #[.string n3, .slice afs3 fs3.length cfs3] 116)) := (Below.refl _ _).alloc (Nat.le_refl _) _
        have hbx0 := hbk.trans (hbx.mono hbk.size)
        have hc1 := impl_validCon ts (some ⟨b, o, none⟩) c n3 fs3 afs3 cfs3 (wr.alloc (.cells #[.string n3, .slice afs3 fs3.length cfs3] 116)) (by have := HMQ.out; omega) (HD.out.below hbx0) ((hrk3.below hbk).below hbx)
        have d0 := (hbk.cell (p := ⟨b2, o2 + m * 2, none⟩) hbl2).trans q0
        have d1 := (hbk.cell (p := ⟨b2, o2 + m * 2 + 1, none⟩) hbl2).trans q1
        have HX3 := hid ((Boxes.nil wr).alloc #[.string n3, .slice afs3 fs3.length cfs3] 116 (0, 0))
        have HOK1 := hid (HOK.out.below hbx)
        have HBX1 := hid hbx0
        clear hall2 hrk3 q0 q1 ht hbg3 hbk3 hbk hbx hbx0
        by_cases hco : conOk ts (.mk n3 fs3) = true
        case neg =>
          replace hco := (Bool.not_eq_true _).mp hco
          have HNO := hid (show datsFrom ts ts 0 [] = false by rw [HJ.out, HHD.out, HHT.out, HJ2.out, HCO.out, hco]; rfl)
          rw [hco] at hc1
          have HC1 := hid hc1
          clear hc1 hco
          go_wp2_with fail
          refine HC1.out.mono ?_
          rintro e w4 ⟨rfl, hb4⟩
          have hbz := HBX1.out.trans (hb4.mono HBX1.out.size)
          clear hb4 d0 d1
          go_wp2_with fail
          go_ret
          exact ⟨ret_bool (by rw [HF.out, HNO.out]), hbz⟩
        case pos =>
          have HCT1 := hid hco
          rw [hco] at hc1
          have HC1 := hid hc1
          clear hc1 hco
          by_cases hns : hasStr sn n3 = true
          case pos =>
            have HNO := hid (show datsFrom ts ts 0 [] = false by rw [HJ.out, HHD.out, HHT.out, HJ2.out, HCO.out, HCT1.out, hns]; rfl)
            have HNS := hid hns
            clear hns
            go_wp2_with fail
            refine HC1.out.mono ?_
            rintro e w4 ⟨rfl, hb4⟩
            have hbz := HBX1.out.trans (hb4.mono HBX1.out.size)
            have z0 := (HX3.out.below hb4).at 0 0 rfl rfl
            have hlk4 := (HOK1.out.below hb4).look n3 hn3
            rw [HNS.out] at hlk4
            clear hb4 d0 d1
            go_wp2_with fail
            go_ret
            exact ⟨ret_bool (by rw [HF.out, HNO.out]), hbz⟩
          case neg =>
            replace hns := (Bool.not_eq_true _).mp hns
            have HCN := hid (show consFrom ts qs1 seen = consFrom ts (qs1.drop (m + 1)) (sn ++ [n3]) by rw [HJ2.out, HCO.out, HCT1.out, hns]; rfl)
            have HNS := hid hns
            clear hns
            have hkey : keyOf Tryz.prog 9 (.string n3) = some (.string n3.data.toList) := WideMaps.keyOf_string_mk Tryz.underlying9 hn3
            go_wp2_with fail
            refine HC1.out.mono ?_
            rintro e w4 ⟨rfl, hb4⟩
            have HBZ4 := hid (HBX1.out.trans (hb4.mono HBX1.out.size))
            have z0 := (HX3.out.below hb4).at 0 0 rfl rfl
            have HOK4 := hid (HOK1.out.below hb4)
            have hlk4 := HOK4.out.look n3 hn3
            rw [HNS.out] at hlk4
            clear hb4 d0 d1
            go_wp2_with (at_mapUpdate; refine wpList_mapUpdate_own _ rfl _ _ _ 140 rfl 9 4 (Go.Maps.string_keyed Tryz.underlying9) Tryz.underlying140 (plainElem (H := Unit) Tryz.prog 4) w.heap.size sn.length _ rfl HOK4.out (by unfold maxLen; omega) _ _ _ rfl rfl hkey _ [] (plainElem_bool Tryz.underlying4 true) ?_; intro w5 hown5 hgrow5)
            have hown6 : SeenAt w.heap.size (sn ++ [n3]) w5 := by unfold SeenAt; rw [← seen_put]; simpa using hown5
            have hbz := HBZ4.out.grown hgrow5 HBZ4.out.size (fun y hy => by cases hy; exact Nat.le_refl _)
            go_roundw
            case rel => exact ⟨m + 1, sn ++ [n3], by omega, by go_num, by simp; omega, hown6, HCN.out, hbz⟩
            case measure => simp [intOf]; omega
end Go.Proofs.YtgpefnlpbjnjbaaGreat
