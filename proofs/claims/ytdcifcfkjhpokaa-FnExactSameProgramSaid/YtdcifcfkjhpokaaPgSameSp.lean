/- Walks: SameProgram, in the reference. -/
import Derived.Test.YtdcifcfkjhpokaaPgSame
import Derived.BigQuiet
import Derived.Lib.QuietBelow
namespace Go.Proofs.Ytdcifcfkjhpokaa
open Go.ChangeShapes Go.WideShapes Go.ChangeAt Go.RowKit Go.BigFrame
open Go.Sort (grow)
set_option linter.unusedVariables false

set_option maxHeartbeats 1000000 in
theorem spec_sameTypes (fs1 fs2 : List Ty) (afs1 afs2 : Option Addr) (cfs1 cfs2 : Nat) (w : World) (hr : RdL w (Ty.ds fs1) (.slice afs1 fs1.length cfs1)) (hr' : RdL w (Ty.ds fs2) (.slice afs2 fs2.length cfs2)) :
    Calls Try.prog 113 #[.slice afs1 fs1.length cfs1, .slice afs2 fs2.length cfs2] w fun e w' => e = .returned (.bool (eqBy Ty.eqb fs1 fs2)) ∧ Below w.heap.size w w' := by
  obtain ⟨_, _, e, h2, h3, h4⟩ := hr.eTy
  simp only [Value.slice.injEq, true_and] at e
  obtain ⟨rfl, rfl⟩ := e
  have H4 := hid h4
  have nH4 := Nat.le_trans h2 h3
  clear h4 h2 h3
  obtain ⟨_, _, e, h2, h3, h4'⟩ := hr'.eTy
  simp only [Value.slice.injEq, true_and] at e
  obtain ⟨rfl, rfl⟩ := e
  have H4' := hid h4'
  have nH4x := Nat.le_trans h2 h3
  clear h4' h2 h3
  by_cases hl : fs1.length = fs2.length
  case neg =>
    have HF := hid (show eqBy Ty.eqb fs1 fs2 = false from eqBy_len Ty.eqb fs1 fs2 hl)
    have hlb : ((fs1.length : Int) != (fs2.length : Int)) = true := by simp; omega
    clear hl hr hr' H4 H4'
    go_enter Try.func113, Try.ntmps113
    go_wp2_with fail
    go_ret
    exact ⟨ret_bool HF.out.symm, Below.refl _ _⟩
  case pos =>
  have hlb : ((fs1.length : Int) != (fs2.length : Int)) = false := by simp [hl]
  have HL := hid hl
  clear hl hr hr'
  go_enter Try.func113, Try.ntmps113
  go_wp2_with fail
  go_loopw [5] (fun i wr => ∃ (j : Nat), j ≤ fs1.length ∧ i = .int .i64 j ∧ Hid (∀ (i : Nat) t u, i < j → fs1[i]? = some t → fs2[i]? = some u → Ty.eqb t u = true) ∧ Below (w.heap.size) w wr) (fun i _ => fs1.length - (intOf i).toNat)
  case atStart => exact ⟨0, by omega, rfl, fun i t u hi => absurd hi (by omega), Below.refl _ _⟩
  case round =>
    obtain ⟨j, hj, rfl, HJfs, hb0⟩ := hrel
    have hb : Below w.heap.size w wr := hb0
    by_cases hlt : j < fs1.length
    case pos =>
      have hlt' : j < fs2.length := by have := HL.out; omega
      obtain ⟨b, o, rfl, hbl, hall⟩ := H4.out (by omega)
      obtain ⟨b', o', rfl, hbl', hall'⟩ := H4'.out (by omega)
      obtain ⟨t, ht⟩ : ∃ t, fs1[j]? = some t := ⟨_, List.getElem?_eq_getElem hlt⟩
      obtain ⟨t', ht'⟩ : ∃ t, fs2[j]? = some t := ⟨_, List.getElem?_eq_getElem hlt'⟩
      obtain ⟨k3, n3, ks3⟩ := t
      obtain ⟨k4, n4, ks4⟩ := t'
      obtain ⟨aks3, cks3, q0, q1, q2, hrk⟩ := hall j k3 n3 ks3 ht
      obtain ⟨aks4, cks4, p0, p1, p2, hrk'⟩ := hall' j k4 n4 ks4 ht'
      clear hall hall' H4 H4'
      have qr0 := cell_regrown ((hb.cell (p := ⟨b, o + j * 3, none⟩) hbl).trans q0)
      have qr1 := cell_regrown ((hb.cell (p := ⟨b, o + j * 3 + 1, none⟩) hbl).trans q1)
      have qr2 := cell_regrown ((hb.cell (p := ⟨b, o + j * 3 + 2, none⟩) hbl).trans q2)
      have pr0 := cell_regrown ((hb.cell (p := ⟨b', o' + j * 3, none⟩) hbl').trans p0)
      have pr1 := cell_regrown ((hb.cell (p := ⟨b', o' + j * 3 + 1, none⟩) hbl').trans p1)
      have pr2 := cell_regrown ((hb.cell (p := ⟨b', o' + j * 3 + 2, none⟩) hbl').trans p2)
      have HT := hid ht
      have HT' := hid ht'
      have hk0 := fun d os => Calls.regrown_of (spec_SameType k3 k4 n3 n4 ks3 ks4 aks3 aks4 cks3 cks4 (grow (redrawn wr d) os) ((hrk.below hb).below (below_regrown wr d os)) ((hrk'.below hb).below (below_regrown wr d os)))
      have HK0 := hid hk0
      clear hk0
      clear ht ht' hrk hrk' q0 p0 q1 p1 q2 p2
      by_cases u0 : (Ty.eqb (Ty.mk k3 n3 ks3) (Ty.mk k4 n4 ks4)) = true
      case neg =>
        replace u0 := (Bool.not_eq_true _).mp u0
        have HQ := hid u0
        have hx := HK0.out
        rw [u0] at hx
        have HK0 := hid hx
        clear hx u0
        go_wp2_with fail
        refine wp_region_quiet_below (by kernel_rfl) (by kernel_rfl) ?_
        repeat (go_big_quiet_step (first | exact HK0.out _ _))
        refine wpQuiet_nil ?_
        intro _ hw'
        obtain ⟨⟨dq, osq⟩, hw''⟩ := hw'
        subst hw''
        have hbx := hb0.trans ((below_regrown wr dq osq).mono (by have := hb0.size; simpa using this))
        have hbw := hb.trans ((below_regrown wr dq osq).mono hb.size)
        clear qr0 pr0 qr1 pr1 qr2 pr2
        go_wp2_with fail
        go_ret
        exact ⟨ret_bool (by rw [eqBy_no Ty.eqb fs1 fs2 j _ _ HT.out HT'.out HQ.out]), hbw⟩
      case pos =>
      have hx := HK0.out
      rw [u0] at hx
      have HK0 := hid hx
      clear hx
      have HQ := hid u0
      clear u0
      go_wp2_with fail
      refine wp_region_quiet_below (by kernel_rfl) (by kernel_rfl) ?_
      repeat (go_big_quiet_step (first | exact HK0.out _ _))
      refine wpQuiet_nil ?_
      intro _ hw'
      obtain ⟨⟨dq, osq⟩, hw''⟩ := hw'
      subst hw''
      have hbx := hb0.trans ((below_regrown wr dq osq).mono (by have := hb0.size; simpa using this))
      have hbw := hb.trans ((below_regrown wr dq osq).mono hb.size)
      clear qr0 pr0 qr1 pr1 qr2 pr2
      go_wp2_with fail
      go_roundw
      case rel =>
        refine ⟨j + 1, by omega, by go_num, fun i t u hi h1 h2 => ?_, hbx⟩
        rcases Nat.lt_succ_iff_lt_or_eq.1 hi with hi | rfl
        · exact HJfs.out i t u hi h1 h2
        · obtain rfl := Option.some.inj (h1.symm.trans HT.out)
          obtain rfl := Option.some.inj (h2.symm.trans HT'.out)
          exact HQ.out
      case measure => simp [intOf]; omega
    case neg =>
      go_wp2_with fail
      go_ret
      exact ⟨ret_bool (by rw [eqBy_yes Ty.eqb fs1 fs2 HL.out (fun i t u h1 h2 => HJfs.out i t u (by have := (List.getElem?_eq_some_iff.1 h1).1; omega) h1 h2)]), hb⟩

set_option maxRecDepth 100000 in
set_option maxHeartbeats 4000000 in
theorem spec_sameData (n1 : ByteArray) (qs1 : List Con) (aqs1 : Option Addr) (cqs1 : Nat) (n2 : ByteArray) (qs2 : List Con) (aqs2 : Option Addr) (cqs2 : Nat) (w : World) (hr : RdS w (Dat.d (Dat.mk n1 qs1)) [.string n1, .slice aqs1 qs1.length cqs1]) (hr' : RdS w (Dat.d (Dat.mk n2 qs2)) [.string n2, .slice aqs2 qs2.length cqs2]) :
    Calls Try.prog 72 #[.agg #[.string n1, .slice aqs1 qs1.length cqs1], .agg #[.string n2, .slice aqs2 qs2.length cqs2]] w fun e w' => e = .returned (.bool (Dat.eqb (Dat.mk n1 qs1) (Dat.mk n2 qs2))) ∧ Below w.heap.size w w' := by
  have HX0 := hid (((Boxes.nil w).alloc #[.string n1, .slice aqs1 qs1.length cqs1] 96 (0, 0)).alloc #[.string n2, .slice aqs2 qs2.length cqs2] 96 (0, 0))
  have HB0 := hid (show Below w.heap.size w ((w.alloc (.cells #[.string n1, .slice aqs1 qs1.length cqs1] 96)).alloc (.cells #[.string n2, .slice aqs2 qs2.length cqs2] 96)) from ((Below.refl _ _).alloc (Nat.le_refl _) _).alloc (by simp) _)
  have HE := hid (show Dat.eqb (Dat.mk n1 qs1) (Dat.mk n2 qs2) = (decide (n1 = n2) && eqBy Con.eqb qs1 qs2) from rfl)
  obtain ⟨_, _, e, h2, h3, h4⟩ := hr.fDat.2.eCon
  simp only [Value.slice.injEq, true_and] at e
  obtain ⟨rfl, rfl⟩ := e
  have H4 := hid h4
  have nH4 := Nat.le_trans h2 h3
  clear h4 h2 h3
  obtain ⟨_, _, e, h2, h3, h4'⟩ := hr'.fDat.2.eCon
  simp only [Value.slice.injEq, true_and] at e
  obtain ⟨rfl, rfl⟩ := e
  have H4' := hid h4'
  have nH4x := Nat.le_trans h2 h3
  clear h4' h2 h3
  clear hr hr'
  by_cases hn : n1 = n2
  case neg =>
    have hnb := bytes_ne hn
    have HF := hid (show Dat.eqb (Dat.mk n1 qs1) (Dat.mk n2 qs2) = false by rw [HE.out]; simp [hn])
    clear hn HE H4 H4' HX0
    go_enter Try.func72, Try.ntmps72
    go_wp2_with fail
    go_ret
    exact ⟨ret_bool HF.out.symm, HB0.out⟩
  case pos =>
  have hnb := bytes_eq hn
  by_cases hl : qs1.length = qs2.length
  case neg =>
    have hlb : ((qs1.length : Int) != (qs2.length : Int)) = true := by simp; omega
    have HF := hid (show Dat.eqb (Dat.mk n1 qs1) (Dat.mk n2 qs2) = false by rw [HE.out, eqBy_len Con.eqb qs1 qs2 hl]; simp)
    clear hn hl HE H4 H4' HX0
    go_enter Try.func72, Try.ntmps72
    go_wp2_with fail
    go_ret
    exact ⟨ret_bool HF.out.symm, HB0.out⟩
  case pos =>
  have hlb : ((qs1.length : Int) != (qs2.length : Int)) = false := by simp [hl]
  have HL := hid hl
  have HE1 := hid (show Dat.eqb (Dat.mk n1 qs1) (Dat.mk n2 qs2) = eqBy Con.eqb qs1 qs2 by rw [HE.out]; simp [hn])
  clear hn hl HE
  go_enter Try.func72, Try.ntmps72
  go_wp2_with fail
  go_loopw [5] (fun i wr => ∃ (j : Nat), j ≤ qs1.length ∧ i = .int .i64 j ∧ Hid (∀ (i : Nat) t u, i < j → qs1[i]? = some t → qs2[i]? = some u → Con.eqb t u = true) ∧ Below (w.heap.size + 2) ((w.alloc (.cells #[.string n1, .slice aqs1 qs1.length cqs1] 96)).alloc (.cells #[.string n2, .slice aqs2 qs2.length cqs2] 96)) wr) (fun i _ => qs1.length - (intOf i).toNat)
  case atStart => exact ⟨0, by omega, rfl, fun i t u hi => absurd hi (by omega), Below.refl _ _⟩
  case round =>
    obtain ⟨j, hj, rfl, HJqs, hb0⟩ := hrel
    have hb : Below w.heap.size w wr := HB0.out.trans (hb0.mono (by omega))
    have HXr := hid (HX0.out.below (by simpa using hb0))
    have z1 := HXr.out.at 1 1 rfl rfl
    have v1 := HXr.out.at 0 1 rfl rfl
    simp only [World.size_alloc] at v1
    by_cases hlt : j < qs1.length
    case pos =>
      have hlt' : j < qs2.length := by have := HL.out; omega
      obtain ⟨b, o, rfl, hbl, hall⟩ := H4.out (by omega)
      obtain ⟨b', o', rfl, hbl', hall'⟩ := H4'.out (by omega)
      obtain ⟨t, ht⟩ : ∃ t, qs1[j]? = some t := ⟨_, List.getElem?_eq_getElem hlt⟩
      obtain ⟨t', ht'⟩ : ∃ t, qs2[j]? = some t := ⟨_, List.getElem?_eq_getElem hlt'⟩
      obtain ⟨n3, fs3⟩ := t
      obtain ⟨n4, fs4⟩ := t'
      obtain ⟨afs3, cfs3, q0, q1, hrk⟩ := hall j n3 fs3 ht
      obtain ⟨afs4, cfs4, p0, p1, hrk'⟩ := hall' j n4 fs4 ht'
      clear hall hall' H4 H4'
      have qr0 := cell_regrown ((hb.cell (p := ⟨b, o + j * 2, none⟩) hbl).trans q0)
      have qr1 := cell_regrown ((hb.cell (p := ⟨b, o + j * 2 + 1, none⟩) hbl).trans q1)
      have pr0 := cell_regrown ((hb.cell (p := ⟨b', o' + j * 2, none⟩) hbl').trans p0)
      have pr1 := cell_regrown ((hb.cell (p := ⟨b', o' + j * 2 + 1, none⟩) hbl').trans p1)
      have rz1 := cell_regrown z1
      have rv1 := cell_regrown v1
      have HT := hid ht
      have HT' := hid ht'
      have HE3 := hid (show Con.eqb (Con.mk n3 fs3) (Con.mk n4 fs4) = (decide (n3 = n4) && eqBy Ty.eqb fs3 fs4) from rfl)
      have hk0 := fun d os => Calls.regrown_of (spec_sameTypes fs3 fs4 afs3 afs4 cfs3 cfs4 (grow (redrawn wr d) os) ((hrk.fCon.2.below hb).below (below_regrown wr d os)) ((hrk'.fCon.2.below hb).below (below_regrown wr d os)))
      have HK0 := hid hk0
      clear hk0
      clear ht ht' hrk hrk' q0 p0 q1 p1
      by_cases u0 : n3 = n4
      case neg =>
        have HQ := hid (show Con.eqb (Con.mk n3 fs3) (Con.mk n4 fs4) = false by rw [HE3.out]; simp [u0])
        have ub0 := bytes_ne u0
        clear HE3 u0
        go_wp2_with fail
        refine wp_region_quiet_below (by kernel_rfl) (by kernel_rfl) ?_
        repeat (go_big_quiet_step (first | exact HK0.out _ _))
        refine wpQuiet_nil ?_
        intro _ hw'
        obtain ⟨⟨dq, osq⟩, hw''⟩ := hw'
        subst hw''
        have hbx := hb0.trans ((below_regrown wr dq osq).mono (by have := hb0.size; simpa using this))
        have hbw := hb.trans ((below_regrown wr dq osq).mono hb.size)
        clear qr0 pr0 qr1 pr1 z1 rz1 v1 rv1
        go_wp2_with fail
        go_ret
        exact ⟨ret_bool (by rw [HE1.out, eqBy_no Con.eqb qs1 qs2 j _ _ HT.out HT'.out HQ.out]), hbw⟩
      case pos =>
      have ub0 := bytes_eq u0
      by_cases u1 : (eqBy Ty.eqb fs3 fs4) = true
      case neg =>
        replace u1 := (Bool.not_eq_true _).mp u1
        have HQ := hid (show Con.eqb (Con.mk n3 fs3) (Con.mk n4 fs4) = false by rw [HE3.out]; simp only [u1, Bool.and_false])
        have hx := HK0.out
        rw [u1] at hx
        have HK0 := hid hx
        clear hx HE3 u0 u1
        go_wp2_with fail
        refine wp_region_quiet_below (by kernel_rfl) (by kernel_rfl) ?_
        repeat (go_big_quiet_step (first | exact HK0.out _ _))
        refine wpQuiet_nil ?_
        intro _ hw'
        obtain ⟨⟨dq, osq⟩, hw''⟩ := hw'
        subst hw''
        have hbx := hb0.trans ((below_regrown wr dq osq).mono (by have := hb0.size; simpa using this))
        have hbw := hb.trans ((below_regrown wr dq osq).mono hb.size)
        clear qr0 pr0 qr1 pr1 z1 rz1 v1 rv1
        go_wp2_with fail
        go_ret
        exact ⟨ret_bool (by rw [HE1.out, eqBy_no Con.eqb qs1 qs2 j _ _ HT.out HT'.out HQ.out]), hbw⟩
      case pos =>
      have hx := HK0.out
      rw [u1] at hx
      have HK0 := hid hx
      clear hx
      have HQ := hid (show Con.eqb (Con.mk n3 fs3) (Con.mk n4 fs4) = true by rw [HE3.out]; simp only [u0, u1, decide_true, Bool.and_true])
      clear HE3 u0 u1
      go_wp2_with fail
      refine wp_region_quiet_below (by kernel_rfl) (by kernel_rfl) ?_
      repeat (go_big_quiet_step (first | exact HK0.out _ _))
      refine wpQuiet_nil ?_
      intro _ hw'
      obtain ⟨⟨dq, osq⟩, hw''⟩ := hw'
      subst hw''
      have hbx := hb0.trans ((below_regrown wr dq osq).mono (by have := hb0.size; simpa using this))
      have hbw := hb.trans ((below_regrown wr dq osq).mono hb.size)
      clear qr0 pr0 qr1 pr1 z1 rz1 v1 rv1
      go_wp2_with fail
      go_roundw
      case rel =>
        refine ⟨j + 1, by omega, by go_num, fun i t u hi h1 h2 => ?_, hbx⟩
        rcases Nat.lt_succ_iff_lt_or_eq.1 hi with hi | rfl
        · exact HJqs.out i t u hi h1 h2
        · obtain rfl := Option.some.inj (h1.symm.trans HT.out)
          obtain rfl := Option.some.inj (h2.symm.trans HT'.out)
          exact HQ.out
      case measure => simp [intOf]; omega
    case neg =>
      go_wp2_with fail
      go_ret
      exact ⟨ret_bool (by rw [HE1.out, eqBy_yes Con.eqb qs1 qs2 HL.out (fun i t u h1 h2 => HJqs.out i t u (by have := (List.getElem?_eq_some_iff.1 h1).1; omega) h1 h2)]), hb⟩

set_option maxRecDepth 100000 in
set_option maxHeartbeats 4000000 in
theorem spec_SameProgram (ds1 : List Dat) (fs1 : List Df) (ads1 : Option Addr) (cds1 : Nat) (afs1 : Option Addr) (cfs1 : Nat) (ds2 : List Dat) (fs2 : List Df) (ads2 : Option Addr) (cds2 : Nat) (afs2 : Option Addr) (cfs2 : Nat) (w : World) (hr : RdS w (Pg.d (Pg.mk ds1 fs1)) [.slice ads1 ds1.length cds1, .slice afs1 fs1.length cfs1]) (hr' : RdS w (Pg.d (Pg.mk ds2 fs2)) [.slice ads2 ds2.length cds2, .slice afs2 fs2.length cfs2]) :
    Calls Try.prog 38 #[.agg #[.slice ads1 ds1.length cds1, .slice afs1 fs1.length cfs1], .agg #[.slice ads2 ds2.length cds2, .slice afs2 fs2.length cfs2]] w fun e w' => e = .returned (.bool (Pg.eqb (Pg.mk ds1 fs1) (Pg.mk ds2 fs2))) ∧ Below w.heap.size w w' := by
  have HX0 := hid (((Boxes.nil w).alloc #[.slice ads1 ds1.length cds1, .slice afs1 fs1.length cfs1] 61 (0, 0)).alloc #[.slice ads2 ds2.length cds2, .slice afs2 fs2.length cfs2] 61 (0, 0))
  have HB0 := hid (show Below w.heap.size w ((w.alloc (.cells #[.slice ads1 ds1.length cds1, .slice afs1 fs1.length cfs1] 61)).alloc (.cells #[.slice ads2 ds2.length cds2, .slice afs2 fs2.length cfs2] 61)) from ((Below.refl _ _).alloc (Nat.le_refl _) _).alloc (by simp) _)
  have HE := hid (show Pg.eqb (Pg.mk ds1 fs1) (Pg.mk ds2 fs2) = (eqBy Dat.eqb ds1 ds2 && eqBy Df.eqb fs1 fs2) from rfl)
  obtain ⟨_, _, e, h2, h3, h4⟩ := hr.fPg.1.eDat
  simp only [Value.slice.injEq, true_and] at e
  obtain ⟨rfl, rfl⟩ := e
  have H4 := hid h4
  have nH4 := Nat.le_trans h2 h3
  clear h4 h2 h3
  obtain ⟨_, _, e, h2, h3, h4'⟩ := hr'.fPg.1.eDat
  simp only [Value.slice.injEq, true_and] at e
  obtain ⟨rfl, rfl⟩ := e
  have H4' := hid h4'
  have nH4x := Nat.le_trans h2 h3
  clear h4' h2 h3
  obtain ⟨_, _, e, h2, h3, h4⟩ := hr.fPg.2.eDf
  simp only [Value.slice.injEq, true_and] at e
  obtain ⟨rfl, rfl⟩ := e
  have S4 := hid h4
  have nS4 := Nat.le_trans h2 h3
  clear h4 h2 h3
  obtain ⟨_, _, e, h2, h3, h4'⟩ := hr'.fPg.2.eDf
  simp only [Value.slice.injEq, true_and] at e
  obtain ⟨rfl, rfl⟩ := e
  have S4' := hid h4'
  have nS4x := Nat.le_trans h2 h3
  clear h4' h2 h3
  clear hr hr'
  by_cases hl : ds1.length = ds2.length
  case neg =>
    have hlb : ((ds1.length : Int) != (ds2.length : Int)) = true := by simp; omega
    have HF := hid (show Pg.eqb (Pg.mk ds1 fs1) (Pg.mk ds2 fs2) = false by rw [HE.out, eqBy_len Dat.eqb ds1 ds2 hl]; simp)
    clear hl HE H4 H4' S4 S4' HX0
    go_enter Try.func38, Try.ntmps38
    go_wp2_with fail
    go_ret
    exact ⟨ret_bool HF.out.symm, HB0.out⟩
  case pos =>
  have hlb : ((ds1.length : Int) != (ds2.length : Int)) = false := by simp [hl]
  have HL := hid hl
  clear hl
  by_cases hl : fs1.length = fs2.length
  case neg =>
    have hlc : ((fs1.length : Int) != (fs2.length : Int)) = true := by simp; omega
    have HF := hid (show Pg.eqb (Pg.mk ds1 fs1) (Pg.mk ds2 fs2) = false by rw [HE.out, eqBy_len Df.eqb fs1 fs2 hl]; simp)
    clear hl HE H4 H4' S4 S4' HX0
    go_enter Try.func38, Try.ntmps38
    go_wp2_with fail
    go_ret
    exact ⟨ret_bool HF.out.symm, HB0.out⟩
  case pos =>
  have hlc : ((fs1.length : Int) != (fs2.length : Int)) = false := by simp [hl]
  have HLS := hid hl
  clear hl
  go_enter Try.func38, Try.ntmps38
  go_wp2_with fail
  go_loopw [5] (fun i wr => ∃ (j : Nat), j ≤ ds1.length ∧ i = .int .i64 j ∧ Hid (∀ (i : Nat) t u, i < j → ds1[i]? = some t → ds2[i]? = some u → Dat.eqb t u = true) ∧ Below (w.heap.size + 2) ((w.alloc (.cells #[.slice ads1 ds1.length cds1, .slice afs1 fs1.length cfs1] 61)).alloc (.cells #[.slice ads2 ds2.length cds2, .slice afs2 fs2.length cfs2] 61)) wr) (fun i _ => ds1.length - (intOf i).toNat)
  case atStart => exact ⟨0, by omega, rfl, fun i t u hi => absurd hi (by omega), Below.refl _ _⟩
  case round =>
    obtain ⟨j, hj, rfl, HJds, hb0⟩ := hrel
    have hb : Below w.heap.size w wr := HB0.out.trans (hb0.mono (by omega))
    have HXr := hid (HX0.out.below (by simpa using hb0))
    have z0 := HXr.out.at 1 0 rfl rfl
    have v0 := HXr.out.at 0 0 rfl rfl
    have z1 := HXr.out.at 1 1 rfl rfl
    have v1 := HXr.out.at 0 1 rfl rfl
    simp only [World.size_alloc] at v0 v1
    by_cases hlt : j < ds1.length
    case pos =>
      have hlt' : j < ds2.length := by have := HL.out; omega
      obtain ⟨b, o, rfl, hbl, hall⟩ := H4.out (by omega)
      obtain ⟨b', o', rfl, hbl', hall'⟩ := H4'.out (by omega)
      obtain ⟨t, ht⟩ : ∃ t, ds1[j]? = some t := ⟨_, List.getElem?_eq_getElem hlt⟩
      obtain ⟨t', ht'⟩ : ∃ t, ds2[j]? = some t := ⟨_, List.getElem?_eq_getElem hlt'⟩
      obtain ⟨n3, qs3⟩ := t
      obtain ⟨n4, qs4⟩ := t'
      obtain ⟨aqs3, cqs3, q0, q1, hrk⟩ := hall j n3 qs3 ht
      obtain ⟨aqs4, cqs4, p0, p1, hrk'⟩ := hall' j n4 qs4 ht'
      clear hall hall' H4 H4'
      have qr0 := cell_regrown ((hb.cell (p := ⟨b, o + j * 2, none⟩) hbl).trans q0)
      have qr1 := cell_regrown ((hb.cell (p := ⟨b, o + j * 2 + 1, none⟩) hbl).trans q1)
      have pr0 := cell_regrown ((hb.cell (p := ⟨b', o' + j * 2, none⟩) hbl').trans p0)
      have pr1 := cell_regrown ((hb.cell (p := ⟨b', o' + j * 2 + 1, none⟩) hbl').trans p1)
      have rz0 := cell_regrown z0
      have rv0 := cell_regrown v0
      have rz1 := cell_regrown z1
      have rv1 := cell_regrown v1
      have HT := hid ht
      have HT' := hid ht'
      have hk0 := fun d os => Calls.regrown_of (spec_sameData n3 qs3 aqs3 cqs3 n4 qs4 aqs4 cqs4 (grow (redrawn wr d) os) ((hrk.below hb).below (below_regrown wr d os)) ((hrk'.below hb).below (below_regrown wr d os)))
      have HK0 := hid hk0
      clear hk0
      clear ht ht' hrk hrk' q0 p0 q1 p1
      by_cases u0 : (Dat.eqb (Dat.mk n3 qs3) (Dat.mk n4 qs4)) = true
      case neg =>
        replace u0 := (Bool.not_eq_true _).mp u0
        have HQ := hid u0
        have hx := HK0.out
        rw [u0] at hx
        have HK0 := hid hx
        clear hx u0
        go_wp2_with fail
        refine wp_region_quiet_below (by kernel_rfl) (by kernel_rfl) ?_
        repeat (go_big_quiet_step (first | exact HK0.out _ _))
        refine wpQuiet_nil ?_
        intro _ hw'
        obtain ⟨⟨dq, osq⟩, hw''⟩ := hw'
        subst hw''
        have hbx := hb0.trans ((below_regrown wr dq osq).mono (by have := hb0.size; simpa using this))
        have hbw := hb.trans ((below_regrown wr dq osq).mono hb.size)
        clear qr0 pr0 qr1 pr1 z0 rz0 v0 rv0 z1 rz1 v1 rv1
        go_wp2_with fail
        go_ret
        exact ⟨ret_bool (by rw [HE.out, eqBy_no Dat.eqb ds1 ds2 j _ _ HT.out HT'.out HQ.out] <;> rfl), hbw⟩
      case pos =>
      have hx := HK0.out
      rw [u0] at hx
      have HK0 := hid hx
      clear hx
      have HQ := hid u0
      clear u0
      go_wp2_with fail
      refine wp_region_quiet_below (by kernel_rfl) (by kernel_rfl) ?_
      repeat (go_big_quiet_step (first | exact HK0.out _ _))
      refine wpQuiet_nil ?_
      intro _ hw'
      obtain ⟨⟨dq, osq⟩, hw''⟩ := hw'
      subst hw''
      have hbx := hb0.trans ((below_regrown wr dq osq).mono (by have := hb0.size; simpa using this))
      have hbw := hb.trans ((below_regrown wr dq osq).mono hb.size)
      clear qr0 pr0 qr1 pr1 z0 rz0 v0 rv0 z1 rz1 v1 rv1
      go_wp2_with fail
      go_roundw
      case rel =>
        refine ⟨j + 1, by omega, by go_num, fun i t u hi h1 h2 => ?_, hbx⟩
        rcases Nat.lt_succ_iff_lt_or_eq.1 hi with hi | rfl
        · exact HJds.out i t u hi h1 h2
        · obtain rfl := Option.some.inj (h1.symm.trans HT.out)
          obtain rfl := Option.some.inj (h2.symm.trans HT'.out)
          exact HQ.out
      case measure => simp [intOf]; omega
    case neg =>
      have HE1 := hid (show Pg.eqb (Pg.mk ds1 fs1) (Pg.mk ds2 fs2) = eqBy Df.eqb fs1 fs2 by rw [HE.out, eqBy_yes Dat.eqb ds1 ds2 HL.out (fun i t u h1 h2 => HJds.out i t u (by have := (List.getElem?_eq_some_iff.1 h1).1; omega) h1 h2)]; rfl)
      have HBS := hid hb0
      go_wp2_with fail
      clear z0 v0 z1 v1 hb hb0 hlt hj HXr
      go_loopw [6] (fun i wr => ∃ (j : Nat), j ≤ fs1.length ∧ i = .int .i64 j ∧ Hid (∀ (i : Nat) t u, i < j → fs1[i]? = some t → fs2[i]? = some u → Df.eqb t u = true) ∧ Below (w.heap.size + 2) ((w.alloc (.cells #[.slice ads1 ds1.length cds1, .slice afs1 fs1.length cfs1] 61)).alloc (.cells #[.slice ads2 ds2.length cds2, .slice afs2 fs2.length cfs2] 61)) wr) (fun i _ => fs1.length - (intOf i).toNat)
      case atStart => exact ⟨0, by omega, rfl, fun i t u hi => absurd hi (by omega), HBS.out⟩
      case round =>
        obtain ⟨j, hj, rfl, HJfs, hb0⟩ := hrel
        have hb : Below w.heap.size w wr := HB0.out.trans (hb0.mono (by omega))
        have HXr := hid (HX0.out.below (by simpa using hb0))
        have z0 := HXr.out.at 1 0 rfl rfl
        have v0 := HXr.out.at 0 0 rfl rfl
        have z1 := HXr.out.at 1 1 rfl rfl
        have v1 := HXr.out.at 0 1 rfl rfl
        simp only [World.size_alloc] at v0 v1
        by_cases hlt : j < fs1.length
        case pos =>
          have hlt' : j < fs2.length := by have := HLS.out; omega
          obtain ⟨b, o, rfl, hbl, hall⟩ := S4.out (by omega)
          obtain ⟨b', o', rfl, hbl', hall'⟩ := S4'.out (by omega)
          obtain ⟨t, ht⟩ : ∃ t, fs1[j]? = some t := ⟨_, List.getElem?_eq_getElem hlt⟩
          obtain ⟨t', ht'⟩ : ∃ t, fs2[j]? = some t := ⟨_, List.getElem?_eq_getElem hlt'⟩
          obtain ⟨n3, ⟨tk3, tn3, tks3⟩, ⟨bk3, bu3, bn3, ⟨btk3, btn3, btks3⟩, bns3, bks3⟩⟩ := t
          obtain ⟨n4, ⟨tk4, tn4, tks4⟩, ⟨bk4, bu4, bn4, ⟨btk4, btn4, btks4⟩, bns4, bks4⟩⟩ := t'
          obtain ⟨atks3, ctks3, abtks3, cbtks3, abns3, cbns3, abks3, cbks3, q0, q1, q2, q3, q4, q5, q6, q7, q8, q9, q10, q11, hrk⟩ := hall j n3 tk3 tn3 tks3 bk3 bu3 bn3 btk3 btn3 btks3 bns3 bks3 ht
          obtain ⟨atks4, ctks4, abtks4, cbtks4, abns4, cbns4, abks4, cbks4, p0, p1, p2, p3, p4, p5, p6, p7, p8, p9, p10, p11, hrk'⟩ := hall' j n4 tk4 tn4 tks4 bk4 bu4 bn4 btk4 btn4 btks4 bns4 bks4 ht'
          clear hall hall' S4 S4'
          have qr0 := cell_regrown ((hb.cell (p := ⟨b, o + j * 12, none⟩) hbl).trans q0)
          have qr1 := cell_regrown ((hb.cell (p := ⟨b, o + j * 12 + 1, none⟩) hbl).trans q1)
          have qr2 := cell_regrown ((hb.cell (p := ⟨b, o + j * 12 + 2, none⟩) hbl).trans q2)
          have qr3 := cell_regrown ((hb.cell (p := ⟨b, o + j * 12 + 3, none⟩) hbl).trans q3)
          have qr4 := cell_regrown ((hb.cell (p := ⟨b, o + j * 12 + 4, none⟩) hbl).trans q4)
          have qr5 := cell_regrown ((hb.cell (p := ⟨b, o + j * 12 + 5, none⟩) hbl).trans q5)
          have qr6 := cell_regrown ((hb.cell (p := ⟨b, o + j * 12 + 6, none⟩) hbl).trans q6)
          have qr7 := cell_regrown ((hb.cell (p := ⟨b, o + j * 12 + 7, none⟩) hbl).trans q7)
          have qr8 := cell_regrown ((hb.cell (p := ⟨b, o + j * 12 + 8, none⟩) hbl).trans q8)
          have qr9 := cell_regrown ((hb.cell (p := ⟨b, o + j * 12 + 9, none⟩) hbl).trans q9)
          have qr10 := cell_regrown ((hb.cell (p := ⟨b, o + j * 12 + 10, none⟩) hbl).trans q10)
          have qr11 := cell_regrown ((hb.cell (p := ⟨b, o + j * 12 + 11, none⟩) hbl).trans q11)
          have pr0 := cell_regrown ((hb.cell (p := ⟨b', o' + j * 12, none⟩) hbl').trans p0)
          have pr1 := cell_regrown ((hb.cell (p := ⟨b', o' + j * 12 + 1, none⟩) hbl').trans p1)
          have pr2 := cell_regrown ((hb.cell (p := ⟨b', o' + j * 12 + 2, none⟩) hbl').trans p2)
          have pr3 := cell_regrown ((hb.cell (p := ⟨b', o' + j * 12 + 3, none⟩) hbl').trans p3)
          have pr4 := cell_regrown ((hb.cell (p := ⟨b', o' + j * 12 + 4, none⟩) hbl').trans p4)
          have pr5 := cell_regrown ((hb.cell (p := ⟨b', o' + j * 12 + 5, none⟩) hbl').trans p5)
          have pr6 := cell_regrown ((hb.cell (p := ⟨b', o' + j * 12 + 6, none⟩) hbl').trans p6)
          have pr7 := cell_regrown ((hb.cell (p := ⟨b', o' + j * 12 + 7, none⟩) hbl').trans p7)
          have pr8 := cell_regrown ((hb.cell (p := ⟨b', o' + j * 12 + 8, none⟩) hbl').trans p8)
          have pr9 := cell_regrown ((hb.cell (p := ⟨b', o' + j * 12 + 9, none⟩) hbl').trans p9)
          have pr10 := cell_regrown ((hb.cell (p := ⟨b', o' + j * 12 + 10, none⟩) hbl').trans p10)
          have pr11 := cell_regrown ((hb.cell (p := ⟨b', o' + j * 12 + 11, none⟩) hbl').trans p11)
          have rz0 := cell_regrown z0
          have rv0 := cell_regrown v0
          have rz1 := cell_regrown z1
          have rv1 := cell_regrown v1
          have HT := hid ht
          have HT' := hid ht'
          have HE3 := hid (show Df.eqb (Df.mk n3 (Ty.mk tk3 tn3 tks3) (Tm.mk bk3 bu3 bn3 (Ty.mk btk3 btn3 btks3) bns3 bks3)) (Df.mk n4 (Ty.mk tk4 tn4 tks4) (Tm.mk bk4 bu4 bn4 (Ty.mk btk4 btn4 btks4) bns4 bks4)) = (decide (n3 = n4) && (Ty.eqb (Ty.mk tk3 tn3 tks3) (Ty.mk tk4 tn4 tks4) && Tm.eqb (Tm.mk bk3 bu3 bn3 (Ty.mk btk3 btn3 btks3) bns3 bks3) (Tm.mk bk4 bu4 bn4 (Ty.mk btk4 btn4 btks4) bns4 bks4))) from rfl)
          have hk0 := fun d os => Calls.regrown_of (spec_SameType tk3 tk4 tn3 tn4 tks3 tks4 atks3 atks4 ctks3 ctks4 (grow (redrawn wr d) os) ((hrk.subDf_t.below hb).below (below_regrown wr d os)) ((hrk'.subDf_t.below hb).below (below_regrown wr d os)))
          have HK0 := hid hk0
          clear hk0
          have hk1 := fun d os => Calls.regrown_of (spec_SameTerm bk3 bu3 bn3 btk3 btn3 btks3 bns3 bks3 abtks3 cbtks3 abns3 cbns3 abks3 cbks3 bk4 bu4 bn4 btk4 btn4 btks4 bns4 bks4 abtks4 cbtks4 abns4 cbns4 abks4 cbks4 (grow (redrawn wr d) os) ((hrk.subDf_b.below hb).below (below_regrown wr d os)) ((hrk'.subDf_b.below hb).below (below_regrown wr d os)))
          have HK1 := hid hk1
          clear hk1
          clear ht ht' hrk hrk' q0 p0 q1 p1 q2 p2 q3 p3 q4 p4 q5 p5 q6 p6 q7 p7 q8 p8 q9 p9 q10 p10 q11 p11
          by_cases u0 : n3 = n4
          case neg =>
            have HQ := hid (show Df.eqb (Df.mk n3 (Ty.mk tk3 tn3 tks3) (Tm.mk bk3 bu3 bn3 (Ty.mk btk3 btn3 btks3) bns3 bks3)) (Df.mk n4 (Ty.mk tk4 tn4 tks4) (Tm.mk bk4 bu4 bn4 (Ty.mk btk4 btn4 btks4) bns4 bks4)) = false by rw [HE3.out]; simp [u0])
            have ub0 := bytes_ne u0
            clear HE3 u0
            go_wp2_with fail
            refine wp_region_quiet_below (by kernel_rfl) (by kernel_rfl) ?_
            repeat (go_big_quiet_step (first | exact HK0.out _ _ | exact HK1.out _ _))
            refine wpQuiet_nil ?_
            intro _ hw'
            obtain ⟨⟨dq, osq⟩, hw''⟩ := hw'
            subst hw''
            have hbx := hb0.trans ((below_regrown wr dq osq).mono (by have := hb0.size; simpa using this))
            have hbw := hb.trans ((below_regrown wr dq osq).mono hb.size)
            clear qr0 pr0 qr1 pr1 qr2 pr2 qr3 pr3 qr4 pr4 qr5 pr5 qr6 pr6 qr7 pr7 qr8 pr8 qr9 pr9 qr10 pr10 qr11 pr11 z0 rz0 v0 rv0 z1 rz1 v1 rv1
            go_wp2_with fail
            go_ret
            exact ⟨ret_bool (by rw [HE1.out, eqBy_no Df.eqb fs1 fs2 j _ _ HT.out HT'.out HQ.out]), hbw⟩
          case pos =>
          have ub0 := bytes_eq u0
          by_cases u1 : (Ty.eqb (Ty.mk tk3 tn3 tks3) (Ty.mk tk4 tn4 tks4)) = true
          case neg =>
            replace u1 := (Bool.not_eq_true _).mp u1
            have HQ := hid (show Df.eqb (Df.mk n3 (Ty.mk tk3 tn3 tks3) (Tm.mk bk3 bu3 bn3 (Ty.mk btk3 btn3 btks3) bns3 bks3)) (Df.mk n4 (Ty.mk tk4 tn4 tks4) (Tm.mk bk4 bu4 bn4 (Ty.mk btk4 btn4 btks4) bns4 bks4)) = false by rw [HE3.out]; simp only [u1, Bool.false_and, Bool.and_false])
            have hx := HK0.out
            rw [u1] at hx
            have HK0 := hid hx
            clear hx HE3 u0 u1
            go_wp2_with fail
            refine wp_region_quiet_below (by kernel_rfl) (by kernel_rfl) ?_
            repeat (go_big_quiet_step (first | exact HK0.out _ _ | exact HK1.out _ _))
            refine wpQuiet_nil ?_
            intro _ hw'
            obtain ⟨⟨dq, osq⟩, hw''⟩ := hw'
            subst hw''
            have hbx := hb0.trans ((below_regrown wr dq osq).mono (by have := hb0.size; simpa using this))
            have hbw := hb.trans ((below_regrown wr dq osq).mono hb.size)
            clear qr0 pr0 qr1 pr1 qr2 pr2 qr3 pr3 qr4 pr4 qr5 pr5 qr6 pr6 qr7 pr7 qr8 pr8 qr9 pr9 qr10 pr10 qr11 pr11 z0 rz0 v0 rv0 z1 rz1 v1 rv1
            go_wp2_with fail
            go_ret
            exact ⟨ret_bool (by rw [HE1.out, eqBy_no Df.eqb fs1 fs2 j _ _ HT.out HT'.out HQ.out]), hbw⟩
          case pos =>
          have hx := HK0.out
          rw [u1] at hx
          have HK0 := hid hx
          clear hx
          by_cases u2 : (Tm.eqb (Tm.mk bk3 bu3 bn3 (Ty.mk btk3 btn3 btks3) bns3 bks3) (Tm.mk bk4 bu4 bn4 (Ty.mk btk4 btn4 btks4) bns4 bks4)) = true
          case neg =>
            replace u2 := (Bool.not_eq_true _).mp u2
            have HQ := hid (show Df.eqb (Df.mk n3 (Ty.mk tk3 tn3 tks3) (Tm.mk bk3 bu3 bn3 (Ty.mk btk3 btn3 btks3) bns3 bks3)) (Df.mk n4 (Ty.mk tk4 tn4 tks4) (Tm.mk bk4 bu4 bn4 (Ty.mk btk4 btn4 btks4) bns4 bks4)) = false by rw [HE3.out]; simp only [u2, Bool.and_false])
            have hx := HK1.out
            rw [u2] at hx
            have HK1 := hid hx
            clear hx HE3 u0 u1 u2
            go_wp2_with fail
            refine wp_region_quiet_below (by kernel_rfl) (by kernel_rfl) ?_
            repeat (go_big_quiet_step (first | exact HK0.out _ _ | exact HK1.out _ _))
            refine wpQuiet_nil ?_
            intro _ hw'
            obtain ⟨⟨dq, osq⟩, hw''⟩ := hw'
            subst hw''
            have hbx := hb0.trans ((below_regrown wr dq osq).mono (by have := hb0.size; simpa using this))
            have hbw := hb.trans ((below_regrown wr dq osq).mono hb.size)
            clear qr0 pr0 qr1 pr1 qr2 pr2 qr3 pr3 qr4 pr4 qr5 pr5 qr6 pr6 qr7 pr7 qr8 pr8 qr9 pr9 qr10 pr10 qr11 pr11 z0 rz0 v0 rv0 z1 rz1 v1 rv1
            go_wp2_with fail
            go_ret
            exact ⟨ret_bool (by rw [HE1.out, eqBy_no Df.eqb fs1 fs2 j _ _ HT.out HT'.out HQ.out]), hbw⟩
          case pos =>
          have hx := HK1.out
          rw [u2] at hx
          have HK1 := hid hx
          clear hx
          have HQ := hid (show Df.eqb (Df.mk n3 (Ty.mk tk3 tn3 tks3) (Tm.mk bk3 bu3 bn3 (Ty.mk btk3 btn3 btks3) bns3 bks3)) (Df.mk n4 (Ty.mk tk4 tn4 tks4) (Tm.mk bk4 bu4 bn4 (Ty.mk btk4 btn4 btks4) bns4 bks4)) = true by rw [HE3.out]; simp only [u0, u1, u2, decide_true, Bool.and_true])
          clear HE3 u0 u1 u2
          go_wp2_with fail
          refine wp_region_quiet_below (by kernel_rfl) (by kernel_rfl) ?_
          repeat (go_big_quiet_step (first | exact HK0.out _ _ | exact HK1.out _ _))
          refine wpQuiet_nil ?_
          intro _ hw'
          obtain ⟨⟨dq, osq⟩, hw''⟩ := hw'
          subst hw''
          have hbx := hb0.trans ((below_regrown wr dq osq).mono (by have := hb0.size; simpa using this))
          have hbw := hb.trans ((below_regrown wr dq osq).mono hb.size)
          clear qr0 pr0 qr1 pr1 qr2 pr2 qr3 pr3 qr4 pr4 qr5 pr5 qr6 pr6 qr7 pr7 qr8 pr8 qr9 pr9 qr10 pr10 qr11 pr11 z0 rz0 v0 rv0 z1 rz1 v1 rv1
          go_wp2_with fail
          go_roundw
          case rel =>
            refine ⟨j + 1, by omega, by go_num, fun i t u hi h1 h2 => ?_, hbx⟩
            rcases Nat.lt_succ_iff_lt_or_eq.1 hi with hi | rfl
            · exact HJfs.out i t u hi h1 h2
            · obtain rfl := Option.some.inj (h1.symm.trans HT.out)
              obtain rfl := Option.some.inj (h2.symm.trans HT'.out)
              exact HQ.out
          case measure => simp [intOf]; omega
        case neg =>
          go_wp2_with fail
          go_ret
          exact ⟨ret_bool (by rw [HE1.out, eqBy_yes Df.eqb fs1 fs2 HLS.out (fun i t u h1 h2 => HJfs.out i t u (by have := (List.getElem?_eq_some_iff.1 h1).1; omega) h1 h2)]), hb⟩
end Go.Proofs.Ytdcifcfkjhpokaa
