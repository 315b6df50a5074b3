/- Walks: SameProgram, in the program. -/
import Derived.Test.YtdcifcfkjhpokaaEqfPg
import Derived.Test.YtdcifcfkjhpokaaSaTm
import Derived.Test.YtdcifcfkjhpokaaSzDf
import Derived.BigQuiet
import Derived.Lib.QuietBelow
namespace Go.Proofs.Ytdcifcfkjhpokaa
open Go.ChangeShapes Go.WideShapes Go.ChangeAt Go.RowKit Go.BigFrame
open Go.Sort (grow)
set_option linter.unusedVariables false

def Con.eqb : Con → Con → Bool
  | .mk n1 fs1, .mk n2 fs2 => (decide (n1 = n2) && eqBy Ty.eqb fs1 fs2)
def Dat.eqb : Dat → Dat → Bool
  | .mk n1 qs1, .mk n2 qs2 => (decide (n1 = n2) && eqBy Con.eqb qs1 qs2)
def Df.eqb : Df → Df → Bool
  | .mk n1 t1 b1, .mk n2 t2 b2 => (decide (n1 = n2) && (Ty.eqb t1 t2 && Tm.eqb b1 b2))
def Pg.eqb : Pg → Pg → Bool
  | .mk ds1 fs1, .mk ds2 fs2 => (eqBy Dat.eqb ds1 ds2 && eqBy Df.eqb fs1 fs2)

set_option maxHeartbeats 2000000 in
theorem impl_sameCon (n1 : ByteArray) (fs1 : List Ty) (afs1 : Option Addr) (cfs1 : Nat) (n2 : ByteArray) (fs2 : List Ty) (afs2 : Option Addr) (cfs2 : Nat) (w : World) (hr : RdS w (Con.d (Con.mk n1 fs1)) [.string n1, .slice afs1 fs1.length cfs1]) (hr' : RdS w (Con.d (Con.mk n2 fs2)) [.string n2, .slice afs2 fs2.length cfs2]) :
    Calls Try.prog 118 #[.agg #[.string n1, .slice afs1 fs1.length cfs1], .agg #[.string n2, .slice afs2 fs2.length cfs2]] w fun e w' => e = .returned (.bool (Con.eqb (Con.mk n1 fs1) (Con.mk n2 fs2))) ∧ Below w.heap.size w w' := by
  have HE := hid (show Con.eqb (Con.mk n1 fs1) (Con.mk n2 fs2) = (decide (n1 = n2) && eqBy Ty.eqb fs1 fs2) from rfl)
  have HX0 := hid (((Boxes.nil w).alloc #[.string n1, .slice afs1 fs1.length cfs1] 140 (0, 0)).alloc #[.string n2, .slice afs2 fs2.length cfs2] 140 (0, 0))
  have HB0 := hid (show Below w.heap.size w ((w.alloc (.cells #[.string n1, .slice afs1 fs1.length cfs1] 140)).alloc (.cells #[.string n2, .slice afs2 fs2.length cfs2] 140)) from ((Below.refl _ _).alloc (Nat.le_refl _) _).alloc (by simp) _)
  have hc0 := fun W (hW : Below w.heap.size w W) => equalFunc_Ty 81 Try.call81 Ty.eqb fs1 fs2 afs1 afs2 cfs1 cfs2 W (hr.fCon.2.below hW) (hr'.fCon.2.below hW) (fun k3 n3 ks3 aks3 cks3 k4 n4 ks4 aks4 cks4 j V _ _ _ h h' => impl_SameType k3 k4 n3 n4 ks3 ks4 aks3 aks4 cks3 cks4 V h h')
  have HC0 := hid hc0
  clear hr hr' hc0
  by_cases h0 : n1 = n2
  case neg =>
    have HF := hid (show Con.eqb (Con.mk n1 fs1) (Con.mk n2 fs2) = false by rw [HE.out]; simp [h0])
    have hb0 := bytes_ne h0
    clear HE h0 HC0
    go_enter Try.func118, Try.ntmps118
    go_wp2_with fail
    go_ret
    exact ⟨ret_bool HF.out.symm, HB0.out⟩
  case pos =>
    have hb0 := bytes_eq h0
    have HF := hid (show Con.eqb (Con.mk n1 fs1) (Con.mk n2 fs2) = eqBy Ty.eqb fs1 fs2 by rw [HE.out]; simp only [h0, decide_true, Bool.true_and])
    clear HE h0
    go_enter Try.func118, Try.ntmps118
    go_wp2_with fail
    refine (HC0.out _ HB0.out).mono ?_
    rintro e w1 ⟨rfl, hb⟩
    have HB1 := hid (HB0.out.trans (hb.mono HB0.out.size))
    have HX1 := hid (HX0.out.below hb)
    clear hb HC0
    have g0_0 := HX1.out.at 0 0 rfl rfl
    have g0_1 := HX1.out.at 0 1 rfl rfl
    have g1_0 := HX1.out.at 1 0 rfl rfl
    have g1_1 := HX1.out.at 1 1 rfl rfl
    simp only [World.size_alloc] at g0_0 g0_1
    go_wp2_with fail
    go_ret
    exact ⟨ret_bool HF.out.symm, HB1.out⟩

set_option maxHeartbeats 2000000 in
theorem impl_sameData (n1 : ByteArray) (qs1 : List Con) (aqs1 : Option Addr) (cqs1 : Nat) (n2 : ByteArray) (qs2 : List Con) (aqs2 : Option Addr) (cqs2 : Nat) (w : World) (hr : RdS w (Dat.d (Dat.mk n1 qs1)) [.string n1, .slice aqs1 qs1.length cqs1]) (hr' : RdS w (Dat.d (Dat.mk n2 qs2)) [.string n2, .slice aqs2 qs2.length cqs2]) :
    Calls Try.prog 78 #[.agg #[.string n1, .slice aqs1 qs1.length cqs1], .agg #[.string n2, .slice aqs2 qs2.length cqs2]] w fun e w' => e = .returned (.bool (Dat.eqb (Dat.mk n1 qs1) (Dat.mk n2 qs2))) ∧ Below w.heap.size w w' := by
  have HE := hid (show Dat.eqb (Dat.mk n1 qs1) (Dat.mk n2 qs2) = (decide (n1 = n2) && eqBy Con.eqb qs1 qs2) from rfl)
  have HX0 := hid (((Boxes.nil w).alloc #[.string n1, .slice aqs1 qs1.length cqs1] 96 (0, 0)).alloc #[.string n2, .slice aqs2 qs2.length cqs2] 96 (0, 0))
  have HB0 := hid (show Below w.heap.size w ((w.alloc (.cells #[.string n1, .slice aqs1 qs1.length cqs1] 96)).alloc (.cells #[.string n2, .slice aqs2 qs2.length cqs2] 96)) from ((Below.refl _ _).alloc (Nat.le_refl _) _).alloc (by simp) _)
  have hc0 := fun W (hW : Below w.heap.size w W) => equalFunc_Con 118 Try.call118 Con.eqb qs1 qs2 aqs1 aqs2 cqs1 cqs2 W (hr.fDat.2.below hW) (hr'.fDat.2.below hW) (fun n3 fs3 afs3 cfs3 n4 fs4 afs4 cfs4 j V _ _ _ h h' => impl_sameCon n3 fs3 afs3 cfs3 n4 fs4 afs4 cfs4 V h h')
  have HC0 := hid hc0
  clear hr hr' hc0
  by_cases h0 : n1 = n2
  case neg =>
    have HF := hid (show Dat.eqb (Dat.mk n1 qs1) (Dat.mk n2 qs2) = false by rw [HE.out]; simp [h0])
    have hb0 := bytes_ne h0
    clear HE h0 HC0
    go_enter Try.func78, Try.ntmps78
    go_wp2_with fail
    go_ret
    exact ⟨ret_bool HF.out.symm, HB0.out⟩
  case pos =>
    have hb0 := bytes_eq h0
    have HF := hid (show Dat.eqb (Dat.mk n1 qs1) (Dat.mk n2 qs2) = eqBy Con.eqb qs1 qs2 by rw [HE.out]; simp only [h0, decide_true, Bool.true_and])
    clear HE h0
    go_enter Try.func78, Try.ntmps78
    go_wp2_with fail
    refine (HC0.out _ HB0.out).mono ?_
    rintro e w1 ⟨rfl, hb⟩
    have HB1 := hid (HB0.out.trans (hb.mono HB0.out.size))
    have HX1 := hid (HX0.out.below hb)
    clear hb HC0
    have g0_0 := HX1.out.at 0 0 rfl rfl
    have g0_1 := HX1.out.at 0 1 rfl rfl
    have g1_0 := HX1.out.at 1 0 rfl rfl
    have g1_1 := HX1.out.at 1 1 rfl rfl
    simp only [World.size_alloc] at g0_0 g0_1
    go_wp2_with fail
    go_ret
    exact ⟨ret_bool HF.out.symm, HB1.out⟩

set_option maxHeartbeats 2000000 in
theorem impl_sameDef (n1 : ByteArray) (tk1 : Int) (tn1 : ByteArray) (tks1 : List Ty) (bk1 : Int) (bu1 : Int) (bn1 : ByteArray) (btk1 : Int) (btn1 : ByteArray) (btks1 : List Ty) (bns1 : List ByteArray) (bks1 : List Tm) (atks1 : Option Addr) (ctks1 : Nat) (abtks1 : Option Addr) (cbtks1 : Nat) (abns1 : Option Addr) (cbns1 : Nat) (abks1 : Option Addr) (cbks1 : Nat) (n2 : ByteArray) (tk2 : Int) (tn2 : ByteArray) (tks2 : List Ty) (bk2 : Int) (bu2 : Int) (bn2 : ByteArray) (btk2 : Int) (btn2 : ByteArray) (btks2 : List Ty) (bns2 : List ByteArray) (bks2 : List Tm) (atks2 : Option Addr) (ctks2 : Nat) (abtks2 : Option Addr) (cbtks2 : Nat) (abns2 : Option Addr) (cbns2 : Nat) (abks2 : Option Addr) (cbks2 : Nat) (w : World) (hr : RdS w (Df.d (Df.mk n1 (Ty.mk tk1 tn1 tks1) (Tm.mk bk1 bu1 bn1 (Ty.mk btk1 btn1 btks1) bns1 bks1))) [.string n1, .int .i64 tk1, .string tn1, .slice atks1 tks1.length ctks1, .int .i64 bk1, .int .i64 bu1, .string bn1, .int .i64 btk1, .string btn1, .slice abtks1 btks1.length cbtks1, .slice abns1 bns1.length cbns1, .slice abks1 bks1.length cbks1]) (hr' : RdS w (Df.d (Df.mk n2 (Ty.mk tk2 tn2 tks2) (Tm.mk bk2 bu2 bn2 (Ty.mk btk2 btn2 btks2) bns2 bks2))) [.string n2, .int .i64 tk2, .string tn2, .slice atks2 tks2.length ctks2, .int .i64 bk2, .int .i64 bu2, .string bn2, .int .i64 btk2, .string btn2, .slice abtks2 btks2.length cbtks2, .slice abns2 bns2.length cbns2, .slice abks2 bks2.length cbks2]) :
    Calls Try.prog 80 #[.agg #[.string n1, .int .i64 tk1, .string tn1, .slice atks1 tks1.length ctks1, .int .i64 bk1, .int .i64 bu1, .string bn1, .int .i64 btk1, .string btn1, .slice abtks1 btks1.length cbtks1, .slice abns1 bns1.length cbns1, .slice abks1 bks1.length cbks1], .agg #[.string n2, .int .i64 tk2, .string tn2, .slice atks2 tks2.length ctks2, .int .i64 bk2, .int .i64 bu2, .string bn2, .int .i64 btk2, .string btn2, .slice abtks2 btks2.length cbtks2, .slice abns2 bns2.length cbns2, .slice abks2 bks2.length cbks2]] w fun e w' => e = .returned (.bool (Df.eqb (Df.mk n1 (Ty.mk tk1 tn1 tks1) (Tm.mk bk1 bu1 bn1 (Ty.mk btk1 btn1 btks1) bns1 bks1)) (Df.mk n2 (Ty.mk tk2 tn2 tks2) (Tm.mk bk2 bu2 bn2 (Ty.mk btk2 btn2 btks2) bns2 bks2)))) ∧ Below w.heap.size w w' := by
  have HE := hid (show Df.eqb (Df.mk n1 (Ty.mk tk1 tn1 tks1) (Tm.mk bk1 bu1 bn1 (Ty.mk btk1 btn1 btks1) bns1 bks1)) (Df.mk n2 (Ty.mk tk2 tn2 tks2) (Tm.mk bk2 bu2 bn2 (Ty.mk btk2 btn2 btks2) bns2 bks2)) = (decide (n1 = n2) && (Ty.eqb (Ty.mk tk1 tn1 tks1) (Ty.mk tk2 tn2 tks2) && Tm.eqb (Tm.mk bk1 bu1 bn1 (Ty.mk btk1 btn1 btks1) bns1 bks1) (Tm.mk bk2 bu2 bn2 (Ty.mk btk2 btn2 btks2) bns2 bks2))) from rfl)
  have HX0 := hid (((Boxes.nil w).alloc #[.string n1, .int .i64 tk1, .string tn1, .slice atks1 tks1.length ctks1, .int .i64 bk1, .int .i64 bu1, .string bn1, .int .i64 btk1, .string btn1, .slice abtks1 btks1.length cbtks1, .slice abns1 bns1.length cbns1, .slice abks1 bks1.length cbks1] 98 (0, 0)).alloc #[.string n2, .int .i64 tk2, .string tn2, .slice atks2 tks2.length ctks2, .int .i64 bk2, .int .i64 bu2, .string bn2, .int .i64 btk2, .string btn2, .slice abtks2 btks2.length cbtks2, .slice abns2 bns2.length cbns2, .slice abks2 bks2.length cbks2] 98 (0, 0))
  have HB0 := hid (show Below w.heap.size w ((w.alloc (.cells #[.string n1, .int .i64 tk1, .string tn1, .slice atks1 tks1.length ctks1, .int .i64 bk1, .int .i64 bu1, .string bn1, .int .i64 btk1, .string btn1, .slice abtks1 btks1.length cbtks1, .slice abns1 bns1.length cbns1, .slice abks1 bks1.length cbks1] 98)).alloc (.cells #[.string n2, .int .i64 tk2, .string tn2, .slice atks2 tks2.length ctks2, .int .i64 bk2, .int .i64 bu2, .string bn2, .int .i64 btk2, .string btn2, .slice abtks2 btks2.length cbtks2, .slice abns2 bns2.length cbns2, .slice abks2 bks2.length cbks2] 98)) from ((Below.refl _ _).alloc (Nat.le_refl _) _).alloc (by simp) _)
  have hc0 := fun W (hW : Below w.heap.size w W) => impl_SameType tk1 tk2 tn1 tn2 tks1 tks2 atks1 atks2 ctks1 ctks2 W (hr.subDf_t.below hW) (hr'.subDf_t.below hW)
  have HC0 := hid hc0
  have hc1 := fun W (hW : Below w.heap.size w W) => impl_SameTerm bk1 bu1 bn1 btk1 btn1 btks1 bns1 bks1 abtks1 cbtks1 abns1 cbns1 abks1 cbks1 bk2 bu2 bn2 btk2 btn2 btks2 bns2 bks2 abtks2 cbtks2 abns2 cbns2 abks2 cbks2 W (hr.subDf_b.below hW) (hr'.subDf_b.below hW)
  have HC1 := hid hc1
  clear hr hr' hc0 hc1
  by_cases h0 : n1 = n2
  case neg =>
    have HF := hid (show Df.eqb (Df.mk n1 (Ty.mk tk1 tn1 tks1) (Tm.mk bk1 bu1 bn1 (Ty.mk btk1 btn1 btks1) bns1 bks1)) (Df.mk n2 (Ty.mk tk2 tn2 tks2) (Tm.mk bk2 bu2 bn2 (Ty.mk btk2 btn2 btks2) bns2 bks2)) = false by rw [HE.out]; simp [h0])
    have hb0 := bytes_ne h0
    clear HE h0 HC0 HC1
    go_enter Try.func80, Try.ntmps80
    go_wp2_with fail
    go_ret
    exact ⟨ret_bool HF.out.symm, HB0.out⟩
  case pos =>
    have hb0 := bytes_eq h0
    by_cases h1 : (Ty.eqb (Ty.mk tk1 tn1 tks1) (Ty.mk tk2 tn2 tks2)) = true
    case neg =>
      replace h1 := (Bool.not_eq_true _).mp h1
      have HF := hid (show Df.eqb (Df.mk n1 (Ty.mk tk1 tn1 tks1) (Tm.mk bk1 bu1 bn1 (Ty.mk btk1 btn1 btks1) bns1 bks1)) (Df.mk n2 (Ty.mk tk2 tn2 tks2) (Tm.mk bk2 bu2 bn2 (Ty.mk btk2 btn2 btks2) bns2 bks2)) = false by rw [HE.out]; simp only [h1, Bool.false_and, Bool.and_false])
      rw [h1] at HC0
      clear HE h0 h1 HC1
      go_enter Try.func80, Try.ntmps80
      go_wp2_with fail
      refine (HC0.out _ HB0.out).mono ?_
      rintro e w1 ⟨rfl, hb⟩
      have HB1 := hid (HB0.out.trans (hb.mono HB0.out.size))
      have HX1 := hid (HX0.out.below hb)
      clear hb HC0
      have g0_0 := HX1.out.at 0 0 rfl rfl
      have g0_1 := HX1.out.at 0 1 rfl rfl
      have g0_2 := HX1.out.at 0 2 rfl rfl
      have g0_3 := HX1.out.at 0 3 rfl rfl
      have g0_4 := HX1.out.at 0 4 rfl rfl
      have g0_5 := HX1.out.at 0 5 rfl rfl
      have g0_6 := HX1.out.at 0 6 rfl rfl
      have g0_7 := HX1.out.at 0 7 rfl rfl
      have g0_8 := HX1.out.at 0 8 rfl rfl
      have g0_9 := HX1.out.at 0 9 rfl rfl
      have g0_10 := HX1.out.at 0 10 rfl rfl
      have g0_11 := HX1.out.at 0 11 rfl rfl
      have g1_0 := HX1.out.at 1 0 rfl rfl
      have g1_1 := HX1.out.at 1 1 rfl rfl
      have g1_2 := HX1.out.at 1 2 rfl rfl
      have g1_3 := HX1.out.at 1 3 rfl rfl
      have g1_4 := HX1.out.at 1 4 rfl rfl
      have g1_5 := HX1.out.at 1 5 rfl rfl
      have g1_6 := HX1.out.at 1 6 rfl rfl
      have g1_7 := HX1.out.at 1 7 rfl rfl
      have g1_8 := HX1.out.at 1 8 rfl rfl
      have g1_9 := HX1.out.at 1 9 rfl rfl
      have g1_10 := HX1.out.at 1 10 rfl rfl
      have g1_11 := HX1.out.at 1 11 rfl rfl
      simp only [World.size_alloc] at g0_0 g0_1 g0_2 g0_3 g0_4 g0_5 g0_6 g0_7 g0_8 g0_9 g0_10 g0_11
      go_wp2_with fail
      go_ret
      exact ⟨ret_bool HF.out.symm, HB1.out⟩
    case pos =>
      rw [h1] at HC0
      have HF := hid (show Df.eqb (Df.mk n1 (Ty.mk tk1 tn1 tks1) (Tm.mk bk1 bu1 bn1 (Ty.mk btk1 btn1 btks1) bns1 bks1)) (Df.mk n2 (Ty.mk tk2 tn2 tks2) (Tm.mk bk2 bu2 bn2 (Ty.mk btk2 btn2 btks2) bns2 bks2)) = Tm.eqb (Tm.mk bk1 bu1 bn1 (Ty.mk btk1 btn1 btks1) bns1 bks1) (Tm.mk bk2 bu2 bn2 (Ty.mk btk2 btn2 btks2) bns2 bks2) by rw [HE.out]; simp only [h0, h1, decide_true, Bool.true_and])
      clear HE h0 h1
      go_enter Try.func80, Try.ntmps80
      go_wp2_with fail
      refine (HC0.out _ HB0.out).mono ?_
      rintro e w1 ⟨rfl, hb⟩
      have HB1 := hid (HB0.out.trans (hb.mono HB0.out.size))
      have HX1 := hid (HX0.out.below hb)
      clear hb HC0
      have g0_0 := HX1.out.at 0 0 rfl rfl
      have g0_1 := HX1.out.at 0 1 rfl rfl
      have g0_2 := HX1.out.at 0 2 rfl rfl
      have g0_3 := HX1.out.at 0 3 rfl rfl
      have g0_4 := HX1.out.at 0 4 rfl rfl
      have g0_5 := HX1.out.at 0 5 rfl rfl
      have g0_6 := HX1.out.at 0 6 rfl rfl
      have g0_7 := HX1.out.at 0 7 rfl rfl
      have g0_8 := HX1.out.at 0 8 rfl rfl
      have g0_9 := HX1.out.at 0 9 rfl rfl
      have g0_10 := HX1.out.at 0 10 rfl rfl
      have g0_11 := HX1.out.at 0 11 rfl rfl
      have g1_0 := HX1.out.at 1 0 rfl rfl
      have g1_1 := HX1.out.at 1 1 rfl rfl
      have g1_2 := HX1.out.at 1 2 rfl rfl
      have g1_3 := HX1.out.at 1 3 rfl rfl
      have g1_4 := HX1.out.at 1 4 rfl rfl
      have g1_5 := HX1.out.at 1 5 rfl rfl
      have g1_6 := HX1.out.at 1 6 rfl rfl
      have g1_7 := HX1.out.at 1 7 rfl rfl
      have g1_8 := HX1.out.at 1 8 rfl rfl
      have g1_9 := HX1.out.at 1 9 rfl rfl
      have g1_10 := HX1.out.at 1 10 rfl rfl
      have g1_11 := HX1.out.at 1 11 rfl rfl
      simp only [World.size_alloc] at g0_0 g0_1 g0_2 g0_3 g0_4 g0_5 g0_6 g0_7 g0_8 g0_9 g0_10 g0_11
      go_wp2_with fail
      clear g0_0 g0_1 g0_2 g0_3 g0_4 g0_5 g0_6 g0_7 g0_8 g0_9 g0_10 g0_11 g1_0 g1_1 g1_2 g1_3 g1_4 g1_5 g1_6 g1_7 g1_8 g1_9 g1_10 g1_11
      refine (HC1.out _ HB1.out).mono ?_
      rintro e w2 ⟨rfl, hb⟩
      have HB2 := hid (HB1.out.trans (hb.mono HB1.out.size))
      have HX2 := hid (HX1.out.below hb)
      clear hb HC1
      have g0_0 := HX2.out.at 0 0 rfl rfl
      have g0_1 := HX2.out.at 0 1 rfl rfl
      have g0_2 := HX2.out.at 0 2 rfl rfl
      have g0_3 := HX2.out.at 0 3 rfl rfl
      have g0_4 := HX2.out.at 0 4 rfl rfl
      have g0_5 := HX2.out.at 0 5 rfl rfl
      have g0_6 := HX2.out.at 0 6 rfl rfl
      have g0_7 := HX2.out.at 0 7 rfl rfl
      have g0_8 := HX2.out.at 0 8 rfl rfl
      have g0_9 := HX2.out.at 0 9 rfl rfl
      have g0_10 := HX2.out.at 0 10 rfl rfl
      have g0_11 := HX2.out.at 0 11 rfl rfl
      have g1_0 := HX2.out.at 1 0 rfl rfl
      have g1_1 := HX2.out.at 1 1 rfl rfl
      have g1_2 := HX2.out.at 1 2 rfl rfl
      have g1_3 := HX2.out.at 1 3 rfl rfl
      have g1_4 := HX2.out.at 1 4 rfl rfl
      have g1_5 := HX2.out.at 1 5 rfl rfl
      have g1_6 := HX2.out.at 1 6 rfl rfl
      have g1_7 := HX2.out.at 1 7 rfl rfl
      have g1_8 := HX2.out.at 1 8 rfl rfl
      have g1_9 := HX2.out.at 1 9 rfl rfl
      have g1_10 := HX2.out.at 1 10 rfl rfl
      have g1_11 := HX2.out.at 1 11 rfl rfl
      simp only [World.size_alloc] at g0_0 g0_1 g0_2 g0_3 g0_4 g0_5 g0_6 g0_7 g0_8 g0_9 g0_10 g0_11
      go_wp2_with fail
      go_ret
      exact ⟨ret_bool HF.out.symm, HB2.out⟩

set_option maxHeartbeats 2000000 in
theorem impl_SameProgram (ds1 : List Dat) (fs1 : List Df) (ads1 : Option Addr) (cds1 : Nat) (afs1 : Option Addr) (cfs1 : Nat) (ds2 : List Dat) (fs2 : List Df) (ads2 : Option Addr) (cds2 : Nat) (afs2 : Option Addr) (cfs2 : Nat) (w : World) (hr : RdS w (Pg.d (Pg.mk ds1 fs1)) [.slice ads1 ds1.length cds1, .slice afs1 fs1.length cfs1]) (hr' : RdS w (Pg.d (Pg.mk ds2 fs2)) [.slice ads2 ds2.length cds2, .slice afs2 fs2.length cfs2]) :
    Calls Try.prog 40 #[.agg #[.slice ads1 ds1.length cds1, .slice afs1 fs1.length cfs1], .agg #[.slice ads2 ds2.length cds2, .slice afs2 fs2.length cfs2]] w fun e w' => e = .returned (.bool (Pg.eqb (Pg.mk ds1 fs1) (Pg.mk ds2 fs2))) ∧ Below w.heap.size w w' := by
  have HE := hid (show Pg.eqb (Pg.mk ds1 fs1) (Pg.mk ds2 fs2) = (eqBy Dat.eqb ds1 ds2 && eqBy Df.eqb fs1 fs2) from rfl)
  have HX0 := hid (((Boxes.nil w).alloc #[.slice ads1 ds1.length cds1, .slice afs1 fs1.length cfs1] 61 (0, 0)).alloc #[.slice ads2 ds2.length cds2, .slice afs2 fs2.length cfs2] 61 (0, 0))
  have HB0 := hid (show Below w.heap.size w ((w.alloc (.cells #[.slice ads1 ds1.length cds1, .slice afs1 fs1.length cfs1] 61)).alloc (.cells #[.slice ads2 ds2.length cds2, .slice afs2 fs2.length cfs2] 61)) from ((Below.refl _ _).alloc (Nat.le_refl _) _).alloc (by simp) _)
  have hc0 := fun W (hW : Below w.heap.size w W) => equalFunc_Dat 78 Try.call78 Dat.eqb ds1 ds2 ads1 ads2 cds1 cds2 W (hr.fPg.1.below hW) (hr'.fPg.1.below hW) (fun n3 qs3 aqs3 cqs3 n4 qs4 aqs4 cqs4 j V _ _ _ h h' => impl_sameData n3 qs3 aqs3 cqs3 n4 qs4 aqs4 cqs4 V h h')
  have HC0 := hid hc0
  have hc1 := fun W (hW : Below w.heap.size w W) => equalFunc_Df 80 Try.call80 Df.eqb fs1 fs2 afs1 afs2 cfs1 cfs2 W (hr.fPg.2.below hW) (hr'.fPg.2.below hW) (fun n3 tk3 tn3 tks3 bk3 bu3 bn3 btk3 btn3 btks3 bns3 bks3 atks3 ctks3 abtks3 cbtks3 abns3 cbns3 abks3 cbks3 n4 tk4 tn4 tks4 bk4 bu4 bn4 btk4 btn4 btks4 bns4 bks4 atks4 ctks4 abtks4 cbtks4 abns4 cbns4 abks4 cbks4 j V _ _ _ h h' => impl_sameDef n3 tk3 tn3 tks3 bk3 bu3 bn3 btk3 btn3 btks3 bns3 bks3 atks3 ctks3 abtks3 cbtks3 abns3 cbns3 abks3 cbks3 n4 tk4 tn4 tks4 bk4 bu4 bn4 btk4 btn4 btks4 bns4 bks4 atks4 ctks4 abtks4 cbtks4 abns4 cbns4 abks4 cbks4 V h h')
  have HC1 := hid hc1
  clear hr hr' hc0 hc1
  by_cases h0 : (eqBy Dat.eqb ds1 ds2) = true
  case neg =>
    replace h0 := (Bool.not_eq_true _).mp h0
    have HF := hid (show Pg.eqb (Pg.mk ds1 fs1) (Pg.mk ds2 fs2) = false by rw [HE.out]; simp only [h0, Bool.false_and])
    rw [h0] at HC0
    clear HE h0 HC1
    go_enter Try.func40, Try.ntmps40
    go_wp2_with fail
    refine (HC0.out _ HB0.out).mono ?_
    rintro e w1 ⟨rfl, hb⟩
    have HB1 := hid (HB0.out.trans (hb.mono HB0.out.size))
    have HX1 := hid (HX0.out.below hb)
    clear hb HC0
    have g0_0 := HX1.out.at 0 0 rfl rfl
    have g0_1 := HX1.out.at 0 1 rfl rfl
    have g1_0 := HX1.out.at 1 0 rfl rfl
    have g1_1 := HX1.out.at 1 1 rfl rfl
    simp only [World.size_alloc] at g0_0 g0_1
    go_wp2_with fail
    go_ret
    exact ⟨ret_bool HF.out.symm, HB1.out⟩
  case pos =>
    rw [h0] at HC0
    have HF := hid (show Pg.eqb (Pg.mk ds1 fs1) (Pg.mk ds2 fs2) = eqBy Df.eqb fs1 fs2 by rw [HE.out]; simp only [h0, Bool.true_and])
    clear HE h0
    go_enter Try.func40, Try.ntmps40
    go_wp2_with fail
    refine (HC0.out _ HB0.out).mono ?_
    rintro e w1 ⟨rfl, hb⟩
    have HB1 := hid (HB0.out.trans (hb.mono HB0.out.size))
    have HX1 := hid (HX0.out.below hb)
    clear hb HC0
    have g0_0 := HX1.out.at 0 0 rfl rfl
    have g0_1 := HX1.out.at 0 1 rfl rfl
    have g1_0 := HX1.out.at 1 0 rfl rfl
    have g1_1 := HX1.out.at 1 1 rfl rfl
    simp only [World.size_alloc] at g0_0 g0_1
    go_wp2_with fail
    clear g0_0 g0_1 g1_0 g1_1
    refine (HC1.out _ HB1.out).mono ?_
    rintro e w2 ⟨rfl, hb⟩
    have HB2 := hid (HB1.out.trans (hb.mono HB1.out.size))
    have HX2 := hid (HX1.out.below hb)
    clear hb HC1
    have g0_0 := HX2.out.at 0 0 rfl rfl
    have g0_1 := HX2.out.at 0 1 rfl rfl
    have g1_0 := HX2.out.at 1 0 rfl rfl
    have g1_1 := HX2.out.at 1 1 rfl rfl
    simp only [World.size_alloc] at g0_0 g0_1
    go_wp2_with fail
    go_ret
    exact ⟨ret_bool HF.out.symm, HB2.out⟩

end Go.Proofs.Ytdcifcfkjhpokaa
