/- Merged texts: ToCon ToDat ToDf ToPg ArCon ArDat ArDf ArPg EqCon EqDat EqDf EqPg. No condition. -/
import Derived.Test.YtikhofcjkcbpbaaGreatDoorPgA
import Derived.Test.YtikhofcjkcbpbaaGreatDoorToTy
import Derived.Test.YtikhofcjkcbpbaaGreatDoorToSc
import Derived.Test.YtikhofcjkcbpbaaGreatDoorToTm
import Derived.Test.YtikhofcjkcbpbaaGreatDoorArSc
import Derived.Test.YtikhofcjkcbpbaaGreatDoorArTy
import Derived.Test.YtikhofcjkcbpbaaGreatDoorArTm
import Derived.Test.YtikhofcjkcbpbaaGreatDoorEqTy
import Derived.Test.YtikhofcjkcbpbaaGreatDoorEqSc
import Derived.Test.YtikhofcjkcbpbaaGreatDoorEqTm
/- was: ToCon -/
namespace Go.Proofs.YtikhofcjkcbpbaaGreatDoor
open Go.ChangeShapes Go.WideShapes Go.ChangeAt Go.RowKit
open Go.Sort (grow)
set_option linter.unusedVariables false

/-- Handed back: the call's own copy. -/
def GivesCon (n : ByteArray) (fs : List Ty) (w : World) (e : Ending) (w' : World) : Prop :=
  ∃ (afs : Option Addr) (cfs : Nat), e = .returned (.agg #[.string n, .slice afs fs.length cfs]) ∧ OwnS w' w.heap.size (Con.d (Con.mk n fs)) [.string n, .slice afs fs.length cfs] ∧ Below w.heap.size w w'
def GivesCons (ts : List Con) (w : World) (e : Ending) (w' : World) : Prop :=
  ∃ (a : Option Addr) (c : Nat), e = .returned (.slice a ts.length c) ∧ OwnL w' w.heap.size (Con.ds ts) (.slice a ts.length c) ∧ Below w.heap.size w w'
abbrev ToCon : Prop := ∀ (n : ByteArray) (fs : List Ty) (afs : Option Addr) (cfs : Nat) (w : World), Con.bulk (Con.mk n fs) ≤ 1048576 → RdS w (Con.d (Con.mk n fs)) [.string n, .slice afs fs.length cfs] →
  Calls Tryz.prog 111 #[.agg #[.string n, .slice afs fs.length cfs]] w (GivesCon n fs w)
theorem toCon : ToCon := by
  intro n fs afs cfs w hM hr
  have hbk : Con.bulk (Con.mk n fs) = n.size + Ty.bulks fs := rfl
  obtain ⟨zn, hfs⟩ := hr.fCon
  have hc1 := fun (W : World) (hb : Below w.heap.size w W) => toTys fs afs cfs W (by omega) (hfs.below hb)
  have HC1 := hid hc1
  have hB0 : Below w.heap.size w (w.alloc (.cells #[.string n, .slice afs fs.length cfs] 152)) := (Below.refl _ _).alloc (Nat.le_refl _) _
  clear hr hbk hM hc1 hB0 hfs
  go_enter Tryz.func111, Tryz.ntmps111
  go_wp2_with fail
  refine (HC1.out _ ((((Below.refl _ _).alloc (Nat.le_refl _) _).alloc (by simp) _).alloc (by simp; omega) _)).mono ?_
  rintro e w1 ⟨afs_1, cfs_1, rfl, ho1, hb1⟩
  obtain ⟨hcl1, hfz1⟩ := bcell hb1
  have hz1 : w.heap.size + 1 + 1 < w1.heap.size := by have := hb1.size; simp at this; omega
  have hbw1 : Below w.heap.size w w1 := ((((Below.refl _ _).alloc (Nat.le_refl _) _).alloc (by simp) _).alloc (by simp; omega) _).trans (hb1.mono (by simp; omega))
  have HO1 := hid (ho1.mono (base' := w.heap.size + 3) (by simp))
  have HT1 := hid (Nat.le_refl w1.heap.size)
  clear HC1 ho1
  go_wp2_with fail
  refine bodyPost_ret (v := .agg #[.string n, .slice afs_1 fs.length cfs_1]) (by simp [results, Tryz.results111, go_sem, hcl1]) rfl ⟨afs_1, cfs_1, rfl, ?_, ?_⟩
  · have hfin := ((((Keeps.refl (w.heap.size + 3) w1).setCell (p := ⟨w.heap.size + 1 + 1, 1, none⟩) (by simp) (.slice afs_1 fs.length cfs_1)).setCell (p := ⟨w.heap.size + 1, 0, none⟩) (by simp) (.string n)).setCell (p := ⟨w.heap.size + 1, 1, none⟩) (by simp) (.slice afs_1 fs.length cfs_1))
    have hp := ((PartAll.cons (HO1.out.part.keeps hfin (by first | exact Nat.le_refl _ | omega) (Nat.le_refl _)) (PartAll.nil _ w1.heap.size w1.heap.size) (Nat.le_refl _) (by omega) (by omega)).plain (Rd.str_mk zn))
    exact OwnS.mono (base := w.heap.size + 3) hp.own (by omega)
  · exact (((hbw1.setCell (by simp; try omega) _).setCell (by simp; try omega) _).setCell (by simp; try omega) _)

theorem infoCon : (Tryz.prog.info? 85).map (fun i => (i.zero, i.size, i.bytes)) = some (some (.agg #[.string ⟨#[]⟩, .slice none 0 0]), 2, 40) := by kernel_rfl
theorem makeCon (n : Nat) (hn : n ≤ 1048576) : ∃ C : Array Value, C.size = n * 2 ∧ ∀ w : World, (Instr.makeSlice 72 (.int .i64 (n : Int)) (.int .i64 (n : Int))).run Tryz.prog w = .ok (.slice (some ⟨w.heap.size, 0, none⟩) n n) (w.alloc (.cells C 85)) := by
  obtain ⟨i, hi, hz, hs, hb⟩ := info_parts infoCon
  refine ⟨madeCells (Value.cells (.agg #[.string ⟨#[]⟩, .slice none 0 0])) (n * 2), size_madeCells _ _, fun w => ?_⟩
  have := run_make (P := Tryz.prog) w 72 85 i _ Tryz.underlying72 hi hz .i64 .i64 n n (by omega) (Int.le_refl _) (by rw [hb]; omega) (by omega)
  simp only [Int.toNat_natCast, hs] at this
  exact this
theorem toCons (ts : List Con) (a : Option Addr) (c : Nat) (w : World) (hM : Con.bulks ts ≤ 1048576) (hr : RdL w (Con.ds ts) (.slice a ts.length c)) :
    Calls Tryz.prog 87 #[.slice a ts.length c] w (GivesCons ts w) := by
  obtain ⟨_, _, e, h2, h3, h4⟩ := hr.eCon
  simp only [Value.slice.injEq, true_and] at e
  obtain ⟨rfl, rfl⟩ := e
  have hl := Con.bulks_length ts
  obtain ⟨C, hC, hmk⟩ := makeCon ts.length (by omega)
  have HC := hid hC
  have H4 := hid h4
  clear hr h4 hC
  go_enter Tryz.func87, Tryz.ntmps87
  go_wp2_with fail
  clear hmk
  go_loopw [4] (fun i wr => ∃ (j : Nat), j ≤ ts.length ∧ i = .int .i64 j ∧ ∃ (cur : Array Value) (F : List Nat), wr.heap[w.heap.size]? = some (.cells cur 85 (0, 0)) ∧ Hid (cur.size = ts.length * 2) ∧ Hid (RdAll wr (Con.ds (ts.take j)) (cur.toList.take (j * 2)) F) ∧ Owned wr (w.heap.size + 1) F ∧ Below w.heap.size w wr) (fun i _ => ts.length - (intOf i).toNat)
  case atStart => exact ⟨0, by omega, rfl, C, [], heap_alloc_new _ _, HC.out, by show RdAll _ _ _ _; simpa [Con.ds] using RdAll.nil, Owned.nil _ _, (Below.refl _ _).alloc (Nat.le_refl _) _⟩
  case round =>
    obtain ⟨j, hj, rfl, cur, F, hcur, HS, HR, HO, hb⟩ := hrel
    by_cases hlt : j < ts.length
    · obtain ⟨b, o, rfl, hbl, hall⟩ := H4.out (by omega)
      obtain ⟨t, ht⟩ : ∃ t, ts[j]? = some t := ⟨_, List.getElem?_eq_getElem hlt⟩
      obtain ⟨n1, fs1⟩ := t
      obtain ⟨afs1, cfs1, q0, q1, hrk⟩ := hall j n1 fs1 ht
      clear hall H4
      have d0 := (hb.cell (p := ⟨b, o + j * 2, none⟩) hbl).trans q0
      have d1 := (hb.cell (p := ⟨b, o + j * 2 + 1, none⟩) hbl).trans q1
      have HT := hid ht
      have hbg := Con.bulk_get ts j _ ht
      have hfc := hrk.fCon
      have HFC := hid hfc
      have hc := toCon n1 fs1 afs1 cfs1 wr (by omega) (hrk.below hb)
      have HC := hid hc
      have HU := hid hcur
      clear ht hrk q0 q1 hc hcur hfc
      go_wp2_with fail
      refine HC.out.mono ?_
      clear HC
      rintro e w1 ⟨afs2, cfs2, rfl, hown, hb1⟩
      have hB : w.heap.size < wr.heap.size := (Array.getElem?_eq_some_iff.1 HU.out).1
      have hcur1 : w1.heap[w.heap.size]? = some (.cells cur 85 (0, 0)) := (hb1.block _ hB).trans HU.out
      have hsz : j * 2 + 1 < cur.size := by have := HS.out; omega
      have e0 : w1.cell? ⟨w.heap.size, j * 2, none⟩ = some (cur[j * 2]'(by omega)) := by simp [World.cell?, hcur1]
      have f0 : w1.frozen? ⟨w.heap.size, j * 2, none⟩ = false := by simp [World.frozen?, hcur1]
      have e1 : w1.cell? ⟨w.heap.size, j * 2 + 1, none⟩ = some (cur[j * 2 + 1]'(by omega)) := by simp [World.cell?, hcur1]
      have f1 : w1.frozen? ⟨w.heap.size, j * 2 + 1, none⟩ = false := by simp [World.frozen?, hcur1]
      have HCU := hid hcur1
      have HW := hid hown
      clear hcur1 hown
      go_wp2_with fail
      obtain ⟨F3, hr3, ho3⟩ := HW.out
      have hlo3 : ∀ y ∈ F3, wr.heap.size ≤ y := fun y hy => (ho3.2 y hy).1
      have hlo : ∀ x ∈ F, x < wr.heap.size := HO.lt
      obtain ⟨cur', H, g1, g2, g3, g4, g5⟩ := fill_step (m := 2) (base := w.heap.size + 1) HCU.out rfl (by have := HS.out; omega) (HR.out.below hb1) hr3 (HO.keep fun b hb => hb1.block b (hlo b hb)) (ho3.mono (by omega))
        (fun x hx => by have := (HO.2 x hx).1; omega) (fun x hx => by have := hlo3 x hx; omega) (fun x hx y hy => by have := hlo x hx; have := hlo3 y hy; omega)
      have hbw : Below w.heap.size w (setMany w1 w.heap.size (j * 2) [.string n1, .slice afs2 fs1.length cfs2]) := Below.setMany _ _ (hb.trans (hb1.mono hb.size)) (Nat.le_refl _)
      have htk : Con.ds (ts.take (j + 1)) = Con.ds (ts.take j) ++ [Con.d (Con.mk n1 fs1)] := Con.ds_snoc ts j _ HT.out
      go_roundw
      case rel => exact ⟨j + 1, by omega, by go_num, cur', H, g1, by show _ = _; rw [g2]; exact HS.out, by show RdAll _ _ _ _; rw [htk]; exact g3, g4, hbw⟩
      case measure => simp [intOf]; omega
    · obtain rfl : j = ts.length := by omega
      rw [List.take_length] at HR
      go_wp2_with fail
      go_ret
      obtain ⟨G, q1, q2⟩ := fill_done (m := 2) (base := w.heap.size) hcur HS.out (Con.ds_length ts) (by omega) HR.out (HO.mono (by omega)) (Nat.le_refl _) (fun x hx => by have := (HO.2 x hx).1; omega)
      exact ⟨_, _, rfl, ⟨G, q1, q2⟩, hb⟩

end Go.Proofs.YtikhofcjkcbpbaaGreatDoor
/- was: ToDat -/
namespace Go.Proofs.YtikhofcjkcbpbaaGreatDoor
open Go.ChangeShapes Go.WideShapes Go.ChangeAt Go.RowKit
open Go.Sort (grow)
set_option linter.unusedVariables false

/-- Handed back: the call's own copy. -/
def GivesDat (n : ByteArray) (qs : List Con) (w : World) (e : Ending) (w' : World) : Prop :=
  ∃ (aqs : Option Addr) (cqs : Nat), e = .returned (.agg #[.string n, .slice aqs qs.length cqs]) ∧ OwnS w' w.heap.size (Dat.d (Dat.mk n qs)) [.string n, .slice aqs qs.length cqs] ∧ Below w.heap.size w w'
def GivesDats (ts : List Dat) (w : World) (e : Ending) (w' : World) : Prop :=
  ∃ (a : Option Addr) (c : Nat), e = .returned (.slice a ts.length c) ∧ OwnL w' w.heap.size (Dat.ds ts) (.slice a ts.length c) ∧ Below w.heap.size w w'
abbrev ToDat : Prop := ∀ (n : ByteArray) (qs : List Con) (aqs : Option Addr) (cqs : Nat) (w : World), Dat.bulk (Dat.mk n qs) ≤ 1048576 → RdS w (Dat.d (Dat.mk n qs)) [.string n, .slice aqs qs.length cqs] →
  Calls Tryz.prog 62 #[.agg #[.string n, .slice aqs qs.length cqs]] w (GivesDat n qs w)
theorem toDat : ToDat := by
  intro n qs aqs cqs w hM hr
  have hbk : Dat.bulk (Dat.mk n qs) = n.size + Con.bulks qs := rfl
  obtain ⟨zn, hqs⟩ := hr.fDat
  have hc1 := fun (W : World) (hb : Below w.heap.size w W) => toCons qs aqs cqs W (by omega) (hqs.below hb)
  have HC1 := hid hc1
  have hB0 : Below w.heap.size w (w.alloc (.cells #[.string n, .slice aqs qs.length cqs] 110)) := (Below.refl _ _).alloc (Nat.le_refl _) _
  clear hr hbk hM hc1 hB0 hqs
  go_enter Tryz.func62, Tryz.ntmps62
  go_wp2_with fail
  refine (HC1.out _ ((((Below.refl _ _).alloc (Nat.le_refl _) _).alloc (by simp) _).alloc (by simp; omega) _)).mono ?_
  rintro e w1 ⟨aqs_1, cqs_1, rfl, ho1, hb1⟩
  obtain ⟨hcl1, hfz1⟩ := bcell hb1
  have hz1 : w.heap.size + 1 + 1 < w1.heap.size := by have := hb1.size; simp at this; omega
  have hbw1 : Below w.heap.size w w1 := ((((Below.refl _ _).alloc (Nat.le_refl _) _).alloc (by simp) _).alloc (by simp; omega) _).trans (hb1.mono (by simp; omega))
  have HO1 := hid (ho1.mono (base' := w.heap.size + 3) (by simp))
  have HT1 := hid (Nat.le_refl w1.heap.size)
  clear HC1 ho1
  go_wp2_with fail
  refine bodyPost_ret (v := .agg #[.string n, .slice aqs_1 qs.length cqs_1]) (by simp [results, Tryz.results62, go_sem, hcl1]) rfl ⟨aqs_1, cqs_1, rfl, ?_, ?_⟩
  · have hfin := ((((Keeps.refl (w.heap.size + 3) w1).setCell (p := ⟨w.heap.size + 1 + 1, 1, none⟩) (by simp) (.slice aqs_1 qs.length cqs_1)).setCell (p := ⟨w.heap.size + 1, 0, none⟩) (by simp) (.string n)).setCell (p := ⟨w.heap.size + 1, 1, none⟩) (by simp) (.slice aqs_1 qs.length cqs_1))
    have hp := ((PartAll.cons (HO1.out.part.keeps hfin (by first | exact Nat.le_refl _ | omega) (Nat.le_refl _)) (PartAll.nil _ w1.heap.size w1.heap.size) (Nat.le_refl _) (by omega) (by omega)).plain (Rd.str_mk zn))
    exact OwnS.mono (base := w.heap.size + 3) hp.own (by omega)
  · exact (((hbw1.setCell (by simp; try omega) _).setCell (by simp; try omega) _).setCell (by simp; try omega) _)

theorem infoDat : (Tryz.prog.info? 74).map (fun i => (i.zero, i.size, i.bytes)) = some (some (.agg #[.string ⟨#[]⟩, .slice none 0 0]), 2, 40) := by kernel_rfl
theorem makeDat (n : Nat) (hn : n ≤ 1048576) : ∃ C : Array Value, C.size = n * 2 ∧ ∀ w : World, (Instr.makeSlice 46 (.int .i64 (n : Int)) (.int .i64 (n : Int))).run Tryz.prog w = .ok (.slice (some ⟨w.heap.size, 0, none⟩) n n) (w.alloc (.cells C 74)) := by
  obtain ⟨i, hi, hz, hs, hb⟩ := info_parts infoDat
  refine ⟨madeCells (Value.cells (.agg #[.string ⟨#[]⟩, .slice none 0 0])) (n * 2), size_madeCells _ _, fun w => ?_⟩
  have := run_make (P := Tryz.prog) w 46 74 i _ Tryz.underlying46 hi hz .i64 .i64 n n (by omega) (Int.le_refl _) (by rw [hb]; omega) (by omega)
  simp only [Int.toNat_natCast, hs] at this
  exact this
theorem toDats (ts : List Dat) (a : Option Addr) (c : Nat) (w : World) (hM : Dat.bulks ts ≤ 1048576) (hr : RdL w (Dat.ds ts) (.slice a ts.length c)) :
    Calls Tryz.prog 34 #[.slice a ts.length c] w (GivesDats ts w) := by
  obtain ⟨_, _, e, h2, h3, h4⟩ := hr.eDat
  simp only [Value.slice.injEq, true_and] at e
  obtain ⟨rfl, rfl⟩ := e
  have hl := Dat.bulks_length ts
  obtain ⟨C, hC, hmk⟩ := makeDat ts.length (by omega)
  have HC := hid hC
  have H4 := hid h4
  clear hr h4 hC
  go_enter Tryz.func34, Tryz.ntmps34
  go_wp2_with fail
  clear hmk
  go_loopw [4] (fun i wr => ∃ (j : Nat), j ≤ ts.length ∧ i = .int .i64 j ∧ ∃ (cur : Array Value) (F : List Nat), wr.heap[w.heap.size]? = some (.cells cur 74 (0, 0)) ∧ Hid (cur.size = ts.length * 2) ∧ Hid (RdAll wr (Dat.ds (ts.take j)) (cur.toList.take (j * 2)) F) ∧ Owned wr (w.heap.size + 1) F ∧ Below w.heap.size w wr) (fun i _ => ts.length - (intOf i).toNat)
  case atStart => exact ⟨0, by omega, rfl, C, [], heap_alloc_new _ _, HC.out, by show RdAll _ _ _ _; simpa [Dat.ds] using RdAll.nil, Owned.nil _ _, (Below.refl _ _).alloc (Nat.le_refl _) _⟩
  case round =>
    obtain ⟨j, hj, rfl, cur, F, hcur, HS, HR, HO, hb⟩ := hrel
    by_cases hlt : j < ts.length
    · obtain ⟨b, o, rfl, hbl, hall⟩ := H4.out (by omega)
      obtain ⟨t, ht⟩ : ∃ t, ts[j]? = some t := ⟨_, List.getElem?_eq_getElem hlt⟩
      obtain ⟨n1, qs1⟩ := t
      obtain ⟨aqs1, cqs1, q0, q1, hrk⟩ := hall j n1 qs1 ht
      clear hall H4
      have d0 := (hb.cell (p := ⟨b, o + j * 2, none⟩) hbl).trans q0
      have d1 := (hb.cell (p := ⟨b, o + j * 2 + 1, none⟩) hbl).trans q1
      have HT := hid ht
      have hbg := Dat.bulk_get ts j _ ht
      have hfc := hrk.fDat
      have HFC := hid hfc
      have hc := toDat n1 qs1 aqs1 cqs1 wr (by omega) (hrk.below hb)
      have HC := hid hc
      have HU := hid hcur
      clear ht hrk q0 q1 hc hcur hfc
      go_wp2_with fail
      refine HC.out.mono ?_
      clear HC
      rintro e w1 ⟨aqs2, cqs2, rfl, hown, hb1⟩
      have hB : w.heap.size < wr.heap.size := (Array.getElem?_eq_some_iff.1 HU.out).1
      have hcur1 : w1.heap[w.heap.size]? = some (.cells cur 74 (0, 0)) := (hb1.block _ hB).trans HU.out
      have hsz : j * 2 + 1 < cur.size := by have := HS.out; omega
      have e0 : w1.cell? ⟨w.heap.size, j * 2, none⟩ = some (cur[j * 2]'(by omega)) := by simp [World.cell?, hcur1]
      have f0 : w1.frozen? ⟨w.heap.size, j * 2, none⟩ = false := by simp [World.frozen?, hcur1]
      have e1 : w1.cell? ⟨w.heap.size, j * 2 + 1, none⟩ = some (cur[j * 2 + 1]'(by omega)) := by simp [World.cell?, hcur1]
      have f1 : w1.frozen? ⟨w.heap.size, j * 2 + 1, none⟩ = false := by simp [World.frozen?, hcur1]
      have HCU := hid hcur1
      have HW := hid hown
      clear hcur1 hown
      go_wp2_with fail
      obtain ⟨F3, hr3, ho3⟩ := HW.out
      have hlo3 : ∀ y ∈ F3, wr.heap.size ≤ y := fun y hy => (ho3.2 y hy).1
      have hlo : ∀ x ∈ F, x < wr.heap.size := HO.lt
      obtain ⟨cur', H, g1, g2, g3, g4, g5⟩ := fill_step (m := 2) (base := w.heap.size + 1) HCU.out rfl (by have := HS.out; omega) (HR.out.below hb1) hr3 (HO.keep fun b hb => hb1.block b (hlo b hb)) (ho3.mono (by omega))
        (fun x hx => by have := (HO.2 x hx).1; omega) (fun x hx => by have := hlo3 x hx; omega) (fun x hx y hy => by have := hlo x hx; have := hlo3 y hy; omega)
      have hbw : Below w.heap.size w (setMany w1 w.heap.size (j * 2) [.string n1, .slice aqs2 qs1.length cqs2]) := Below.setMany _ _ (hb.trans (hb1.mono hb.size)) (Nat.le_refl _)
      have htk : Dat.ds (ts.take (j + 1)) = Dat.ds (ts.take j) ++ [Dat.d (Dat.mk n1 qs1)] := Dat.ds_snoc ts j _ HT.out
      go_roundw
      case rel => exact ⟨j + 1, by omega, by go_num, cur', H, g1, by show _ = _; rw [g2]; exact HS.out, by show RdAll _ _ _ _; rw [htk]; exact g3, g4, hbw⟩
      case measure => simp [intOf]; omega
    · obtain rfl : j = ts.length := by omega
      rw [List.take_length] at HR
      go_wp2_with fail
      go_ret
      obtain ⟨G, q1, q2⟩ := fill_done (m := 2) (base := w.heap.size) hcur HS.out (Dat.ds_length ts) (by omega) HR.out (HO.mono (by omega)) (Nat.le_refl _) (fun x hx => by have := (HO.2 x hx).1; omega)
      exact ⟨_, _, rfl, ⟨G, q1, q2⟩, hb⟩

end Go.Proofs.YtikhofcjkcbpbaaGreatDoor
/- was: ToDf -/
namespace Go.Proofs.YtikhofcjkcbpbaaGreatDoor
open Go.ChangeShapes Go.WideShapes Go.ChangeAt Go.RowKit
open Go.Sort (grow)
set_option linter.unusedVariables false

/-- Handed back: the call's own copy. -/
def GivesDf (n : ByteArray) (tk : Int) (tn : ByteArray) (tks : List Ty) (bk : Int) (bu : Int) (bn : ByteArray) (btk : Int) (btn : ByteArray) (btks : List Ty) (bns : List ByteArray) (bks : List Tm) (w : World) (e : Ending) (w' : World) : Prop :=
  ∃ (atks : Option Addr) (ctks : Nat) (abtks : Option Addr) (cbtks : Nat) (abns : Option Addr) (cbns : Nat) (abks : Option Addr) (cbks : Nat), e = .returned (.agg #[.string n, .int .i64 tk, .string tn, .slice atks tks.length ctks, .int .i64 bk, .int .i64 bu, .string bn, .int .i64 btk, .string btn, .slice abtks btks.length cbtks, .slice abns bns.length cbns, .slice abks bks.length cbks]) ∧ OwnS w' w.heap.size (Df.d (Df.mk n (Ty.mk tk tn tks) (Tm.mk bk bu bn (Ty.mk btk btn btks) bns bks))) [.string n, .int .i64 tk, .string tn, .slice atks tks.length ctks, .int .i64 bk, .int .i64 bu, .string bn, .int .i64 btk, .string btn, .slice abtks btks.length cbtks, .slice abns bns.length cbns, .slice abks bks.length cbks] ∧ Below w.heap.size w w'
def GivesDfs (ts : List Df) (w : World) (e : Ending) (w' : World) : Prop :=
  ∃ (a : Option Addr) (c : Nat), e = .returned (.slice a ts.length c) ∧ OwnL w' w.heap.size (Df.ds ts) (.slice a ts.length c) ∧ Below w.heap.size w w'
abbrev ToDf : Prop := ∀ (n : ByteArray) (tk : Int) (tn : ByteArray) (tks : List Ty) (bk : Int) (bu : Int) (bn : ByteArray) (btk : Int) (btn : ByteArray) (btks : List Ty) (bns : List ByteArray) (bks : List Tm) (atks : Option Addr) (ctks : Nat) (abtks : Option Addr) (cbtks : Nat) (abns : Option Addr) (cbns : Nat) (abks : Option Addr) (cbks : Nat) (w : World), Df.bulk (Df.mk n (Ty.mk tk tn tks) (Tm.mk bk bu bn (Ty.mk btk btn btks) bns bks)) ≤ 1048576 → RdS w (Df.d (Df.mk n (Ty.mk tk tn tks) (Tm.mk bk bu bn (Ty.mk btk btn btks) bns bks))) [.string n, .int .i64 tk, .string tn, .slice atks tks.length ctks, .int .i64 bk, .int .i64 bu, .string bn, .int .i64 btk, .string btn, .slice abtks btks.length cbtks, .slice abns bns.length cbns, .slice abks bks.length cbks] →
  Calls Tryz.prog 63 #[.agg #[.string n, .int .i64 tk, .string tn, .slice atks tks.length ctks, .int .i64 bk, .int .i64 bu, .string bn, .int .i64 btk, .string btn, .slice abtks btks.length cbtks, .slice abns bns.length cbns, .slice abks bks.length cbks]] w (GivesDf n tk tn tks bk bu bn btk btn btks bns bks w)
theorem toDf : ToDf := by
  intro n tk tn tks bk bu bn btk btn btks bns bks atks ctks abtks cbtks abns cbns abks cbks w hM hr
  have hbk : Df.bulk (Df.mk n (Ty.mk tk tn tks) (Tm.mk bk bu bn (Ty.mk btk btn btks) bns bks)) = n.size + Ty.bulk (Ty.mk tk tn tks) + Tm.bulk (Tm.mk bk bu bn (Ty.mk btk btn btks) bns bks) := rfl
  obtain ⟨zn, ⟨⟨lotk, hitk⟩, ztn, htks⟩, ⟨⟨lobk, hibk⟩, ⟨lobu, hibu⟩, zbn, ⟨⟨lobtk, hibtk⟩, zbtn, hbtks⟩, hbns, hbks⟩⟩ := hr.fDf
  have hc1 := fun (W : World) (hb : Below w.heap.size w W) => toTy tk tn tks atks ctks W (by omega) ((RdS.subDf_t hr).below hb)
  have hc2 := fun (W : World) (hb : Below w.heap.size w W) => toTm bk bu bn btk btn btks bns bks abtks cbtks abns cbns abks cbks W (by omega) ((RdS.subDf_b hr).below hb)
  have HC1 := hid hc1
  have HC2 := hid hc2
  have hB0 : Below w.heap.size w (w.alloc (.cells #[.string n, .int .i64 tk, .string tn, .slice atks tks.length ctks, .int .i64 bk, .int .i64 bu, .string bn, .int .i64 btk, .string btn, .slice abtks btks.length cbtks, .slice abns bns.length cbns, .slice abks bks.length cbks] 113)) := (Below.refl _ _).alloc (Nat.le_refl _) _
  clear hr hbk hM hc1 hc2 hB0 htks hbtks hbns hbks
  go_enter Tryz.func63, Tryz.ntmps63
  go_wp2_with fail
  refine (HC1.out _ ((((Below.refl _ _).alloc (Nat.le_refl _) _).alloc (by simp) _).alloc (by simp; omega) _)).mono ?_
  rintro e w1 ⟨atks_1, ctks_1, rfl, ho1, hb1⟩
  obtain ⟨hcl1, hfz1⟩ := bcell hb1
  have hz1 : w.heap.size + 1 + 1 < w1.heap.size := by have := hb1.size; simp at this; omega
  have hy1 : w.heap.size + 1 < w1.heap.size := by omega
  have hx1 : w.heap.size < w1.heap.size := by omega
  have hbw1 : Below w.heap.size w w1 := ((((Below.refl _ _).alloc (Nat.le_refl _) _).alloc (by simp) _).alloc (by simp; omega) _).trans (hb1.mono (by simp; omega))
  have HO1 := hid (ho1.mono (base' := w.heap.size + 3) (by simp))
  have HT1 := hid (Nat.le_refl w1.heap.size)
  clear HC1 ho1
  have hbs1 := (((hbw1.setCell (p := ⟨w.heap.size + 1 + 1, 1, none⟩) (by simp; omega) (.int .i64 tk)).setCell (p := ⟨w.heap.size + 1 + 1, 2, none⟩) (by simp; omega) (.string tn)).setCell (p := ⟨w.heap.size + 1 + 1, 3, none⟩) (by simp; omega) (.slice atks_1 tks.length ctks_1))
  have HKS1 := hid ((((Keeps.refl (w.heap.size + 3) w1).setCell (p := ⟨w.heap.size + 1 + 1, 1, none⟩) (by simp) (.int .i64 tk)).setCell (p := ⟨w.heap.size + 1 + 1, 2, none⟩) (by simp) (.string tn)).setCell (p := ⟨w.heap.size + 1 + 1, 3, none⟩) (by simp) (.slice atks_1 tks.length ctks_1))
  go_wp2_with fail
  refine (HC2.out _ hbs1).mono ?_
  rintro e w2 ⟨abtks_2, cbtks_2, abns_2, cbns_2, abks_2, cbks_2, rfl, ho2, hb2⟩
  obtain ⟨hcl2, hfz2⟩ := bcell hb2
  have hz2 : w.heap.size + 1 + 1 < w2.heap.size := by have := hb2.size; simp at this; omega
  have hbw2 : Below w.heap.size w w2 := hbs1.trans (hb2.mono hbs1.size)
  have hsz2 : w1.heap.size ≤ w2.heap.size := by have := hb2.size; simpa using this
  have HK2 := hid (HKS1.out.below hb2)
  have HO2 := hid (ho2.mono (base' := w1.heap.size) (by simp))
  clear HC2 ho2 HKS1
  go_wp2_with fail
  refine bodyPost_ret (v := .agg #[.string n, .int .i64 tk, .string tn, .slice atks_1 tks.length ctks_1, .int .i64 bk, .int .i64 bu, .string bn, .int .i64 btk, .string btn, .slice abtks_2 btks.length cbtks_2, .slice abns_2 bns.length cbns_2, .slice abks_2 bks.length cbks_2]) (by simp [results, Tryz.results63, go_sem, hcl1, hcl2, hy1]) rfl ⟨atks_1, ctks_1, abtks_2, cbtks_2, abns_2, cbns_2, abks_2, cbks_2, rfl, ?_, ?_⟩
  · have hfin := ((((((((((((((((((((HK2.out.setCell (p := ⟨w.heap.size + 1 + 1, 4, none⟩) (by simp) (.int .i64 bk)).setCell (p := ⟨w.heap.size + 1 + 1, 5, none⟩) (by simp) (.int .i64 bu)).setCell (p := ⟨w.heap.size + 1 + 1, 6, none⟩) (by simp) (.string bn)).setCell (p := ⟨w.heap.size + 1 + 1, 7, none⟩) (by simp) (.int .i64 btk)).setCell (p := ⟨w.heap.size + 1 + 1, 8, none⟩) (by simp) (.string btn)).setCell (p := ⟨w.heap.size + 1 + 1, 9, none⟩) (by simp) (.slice abtks_2 btks.length cbtks_2)).setCell (p := ⟨w.heap.size + 1 + 1, 10, none⟩) (by simp) (.slice abns_2 bns.length cbns_2)).setCell (p := ⟨w.heap.size + 1 + 1, 11, none⟩) (by simp) (.slice abks_2 bks.length cbks_2)).setCell (p := ⟨w.heap.size + 1, 0, none⟩) (by simp) (.string n)).setCell (p := ⟨w.heap.size + 1, 1, none⟩) (by simp) (.int .i64 tk)).setCell (p := ⟨w.heap.size + 1, 2, none⟩) (by simp) (.string tn)).setCell (p := ⟨w.heap.size + 1, 3, none⟩) (by simp) (.slice atks_1 tks.length ctks_1)).setCell (p := ⟨w.heap.size + 1, 4, none⟩) (by simp) (.int .i64 bk)).setCell (p := ⟨w.heap.size + 1, 5, none⟩) (by simp) (.int .i64 bu)).setCell (p := ⟨w.heap.size + 1, 6, none⟩) (by simp) (.string bn)).setCell (p := ⟨w.heap.size + 1, 7, none⟩) (by simp) (.int .i64 btk)).setCell (p := ⟨w.heap.size + 1, 8, none⟩) (by simp) (.string btn)).setCell (p := ⟨w.heap.size + 1, 9, none⟩) (by simp) (.slice abtks_2 btks.length cbtks_2)).setCell (p := ⟨w.heap.size + 1, 10, none⟩) (by simp) (.slice abns_2 bns.length cbns_2)).setCell (p := ⟨w.heap.size + 1, 11, none⟩) (by simp) (.slice abks_2 bks.length cbks_2))
    have hfin2 := (((((((((((((((((((((Keeps.refl (w.heap.size + 3) w2).setCell (p := ⟨w.heap.size + 1 + 1, 4, none⟩) (by simp) (.int .i64 bk)).setCell (p := ⟨w.heap.size + 1 + 1, 5, none⟩) (by simp) (.int .i64 bu)).setCell (p := ⟨w.heap.size + 1 + 1, 6, none⟩) (by simp) (.string bn)).setCell (p := ⟨w.heap.size + 1 + 1, 7, none⟩) (by simp) (.int .i64 btk)).setCell (p := ⟨w.heap.size + 1 + 1, 8, none⟩) (by simp) (.string btn)).setCell (p := ⟨w.heap.size + 1 + 1, 9, none⟩) (by simp) (.slice abtks_2 btks.length cbtks_2)).setCell (p := ⟨w.heap.size + 1 + 1, 10, none⟩) (by simp) (.slice abns_2 bns.length cbns_2)).setCell (p := ⟨w.heap.size + 1 + 1, 11, none⟩) (by simp) (.slice abks_2 bks.length cbks_2)).setCell (p := ⟨w.heap.size + 1, 0, none⟩) (by simp) (.string n)).setCell (p := ⟨w.heap.size + 1, 1, none⟩) (by simp) (.int .i64 tk)).setCell (p := ⟨w.heap.size + 1, 2, none⟩) (by simp) (.string tn)).setCell (p := ⟨w.heap.size + 1, 3, none⟩) (by simp) (.slice atks_1 tks.length ctks_1)).setCell (p := ⟨w.heap.size + 1, 4, none⟩) (by simp) (.int .i64 bk)).setCell (p := ⟨w.heap.size + 1, 5, none⟩) (by simp) (.int .i64 bu)).setCell (p := ⟨w.heap.size + 1, 6, none⟩) (by simp) (.string bn)).setCell (p := ⟨w.heap.size + 1, 7, none⟩) (by simp) (.int .i64 btk)).setCell (p := ⟨w.heap.size + 1, 8, none⟩) (by simp) (.string btn)).setCell (p := ⟨w.heap.size + 1, 9, none⟩) (by simp) (.slice abtks_2 btks.length cbtks_2)).setCell (p := ⟨w.heap.size + 1, 10, none⟩) (by simp) (.slice abns_2 bns.length cbns_2)).setCell (p := ⟨w.heap.size + 1, 11, none⟩) (by simp) (.slice abks_2 bks.length cbks_2))
    have hp := ((PartAll.cons (HO1.out.part.keeps hfin (by first | exact Nat.le_refl _ | omega) (Nat.le_refl _)) (PartAll.cons (HO2.out.part.keeps hfin2 (by first | exact Nat.le_refl _ | omega) (Nat.le_refl _)) (PartAll.nil _ w2.heap.size w2.heap.size) (Nat.le_refl _) (by omega) (by omega)) (Nat.le_refl _) (by omega) (by omega)).plain (Rd.str_mk zn))
    exact OwnS.mono (base := w.heap.size + 3) hp.own (by omega)
  · exact ((((((((((((((((((((hbw2.setCell (by simp; try omega) _).setCell (by simp; try omega) _).setCell (by simp; try omega) _).setCell (by simp; try omega) _).setCell (by simp; try omega) _).setCell (by simp; try omega) _).setCell (by simp; try omega) _).setCell (by simp; try omega) _).setCell (by simp; try omega) _).setCell (by simp; try omega) _).setCell (by simp; try omega) _).setCell (by simp; try omega) _).setCell (by simp; try omega) _).setCell (by simp; try omega) _).setCell (by simp; try omega) _).setCell (by simp; try omega) _).setCell (by simp; try omega) _).setCell (by simp; try omega) _).setCell (by simp; try omega) _).setCell (by simp; try omega) _)

theorem infoDf : (Tryz.prog.info? 76).map (fun i => (i.zero, i.size, i.bytes)) = some (some (.agg #[.string ⟨#[]⟩, .int .i64 0, .string ⟨#[]⟩, .slice none 0 0, .int .i64 0, .int .i64 0, .string ⟨#[]⟩, .int .i64 0, .string ⟨#[]⟩, .slice none 0 0, .slice none 0 0, .slice none 0 0]), 12, 192) := by kernel_rfl
theorem makeDf (n : Nat) (hn : n ≤ 1048576) : ∃ C : Array Value, C.size = n * 12 ∧ ∀ w : World, (Instr.makeSlice 47 (.int .i64 (n : Int)) (.int .i64 (n : Int))).run Tryz.prog w = .ok (.slice (some ⟨w.heap.size, 0, none⟩) n n) (w.alloc (.cells C 76)) := by
  obtain ⟨i, hi, hz, hs, hb⟩ := info_parts infoDf
  refine ⟨madeCells (Value.cells (.agg #[.string ⟨#[]⟩, .int .i64 0, .string ⟨#[]⟩, .slice none 0 0, .int .i64 0, .int .i64 0, .string ⟨#[]⟩, .int .i64 0, .string ⟨#[]⟩, .slice none 0 0, .slice none 0 0, .slice none 0 0])) (n * 12), size_madeCells _ _, fun w => ?_⟩
  have := run_make (P := Tryz.prog) w 47 76 i _ Tryz.underlying47 hi hz .i64 .i64 n n (by omega) (Int.le_refl _) (by rw [hb]; omega) (by omega)
  simp only [Int.toNat_natCast, hs] at this
  exact this
theorem toDfs (ts : List Df) (a : Option Addr) (c : Nat) (w : World) (hM : Df.bulks ts ≤ 1048576) (hr : RdL w (Df.ds ts) (.slice a ts.length c)) :
    Calls Tryz.prog 35 #[.slice a ts.length c] w (GivesDfs ts w) := by
  obtain ⟨_, _, e, h2, h3, h4⟩ := hr.eDf
  simp only [Value.slice.injEq, true_and] at e
  obtain ⟨rfl, rfl⟩ := e
  have hl := Df.bulks_length ts
  obtain ⟨C, hC, hmk⟩ := makeDf ts.length (by omega)
  have HC := hid hC
  have H4 := hid h4
  clear hr h4 hC
  go_enter Tryz.func35, Tryz.ntmps35
  go_wp2_with fail
  clear hmk
  go_loopw [4] (fun i wr => ∃ (j : Nat), j ≤ ts.length ∧ i = .int .i64 j ∧ ∃ (cur : Array Value) (F : List Nat), wr.heap[w.heap.size]? = some (.cells cur 76 (0, 0)) ∧ Hid (cur.size = ts.length * 12) ∧ Hid (RdAll wr (Df.ds (ts.take j)) (cur.toList.take (j * 12)) F) ∧ Owned wr (w.heap.size + 1) F ∧ Below w.heap.size w wr) (fun i _ => ts.length - (intOf i).toNat)
  case atStart => exact ⟨0, by omega, rfl, C, [], heap_alloc_new _ _, HC.out, by show RdAll _ _ _ _; simpa [Df.ds] using RdAll.nil, Owned.nil _ _, (Below.refl _ _).alloc (Nat.le_refl _) _⟩
  case round =>
    obtain ⟨j, hj, rfl, cur, F, hcur, HS, HR, HO, hb⟩ := hrel
    by_cases hlt : j < ts.length
    · obtain ⟨b, o, rfl, hbl, hall⟩ := H4.out (by omega)
      obtain ⟨t, ht⟩ : ∃ t, ts[j]? = some t := ⟨_, List.getElem?_eq_getElem hlt⟩
      obtain ⟨n1, ⟨tk1, tn1, tks1⟩, ⟨bk1, bu1, bn1, ⟨btk1, btn1, btks1⟩, bns1, bks1⟩⟩ := t
      obtain ⟨atks1, ctks1, abtks1, cbtks1, abns1, cbns1, abks1, cbks1, q0, q1, q2, q3, q4, q5, q6, q7, q8, q9, q10, q11, hrk⟩ := hall j n1 tk1 tn1 tks1 bk1 bu1 bn1 btk1 btn1 btks1 bns1 bks1 ht
      clear hall H4
      have d0 := (hb.cell (p := ⟨b, o + j * 12, none⟩) hbl).trans q0
      have d1 := (hb.cell (p := ⟨b, o + j * 12 + 1, none⟩) hbl).trans q1
      have d2 := (hb.cell (p := ⟨b, o + j * 12 + 2, none⟩) hbl).trans q2
      have d3 := (hb.cell (p := ⟨b, o + j * 12 + 3, none⟩) hbl).trans q3
      have d4 := (hb.cell (p := ⟨b, o + j * 12 + 4, none⟩) hbl).trans q4
      have d5 := (hb.cell (p := ⟨b, o + j * 12 + 5, none⟩) hbl).trans q5
      have d6 := (hb.cell (p := ⟨b, o + j * 12 + 6, none⟩) hbl).trans q6
      have d7 := (hb.cell (p := ⟨b, o + j * 12 + 7, none⟩) hbl).trans q7
      have d8 := (hb.cell (p := ⟨b, o + j * 12 + 8, none⟩) hbl).trans q8
      have d9 := (hb.cell (p := ⟨b, o + j * 12 + 9, none⟩) hbl).trans q9
      have d10 := (hb.cell (p := ⟨b, o + j * 12 + 10, none⟩) hbl).trans q10
      have d11 := (hb.cell (p := ⟨b, o + j * 12 + 11, none⟩) hbl).trans q11
      have HT := hid ht
      have hbg := Df.bulk_get ts j _ ht
      have hfc := hrk.fDf
      have HFC := hid hfc
      have hc := toDf n1 tk1 tn1 tks1 bk1 bu1 bn1 btk1 btn1 btks1 bns1 bks1 atks1 ctks1 abtks1 cbtks1 abns1 cbns1 abks1 cbks1 wr (by omega) (hrk.below hb)
      have HC := hid hc
      have HU := hid hcur
      clear ht hrk q0 q1 q2 q3 q4 q5 q6 q7 q8 q9 q10 q11 hc hcur hfc
      go_wp2_with fail
      refine HC.out.mono ?_
      clear HC
      rintro e w1 ⟨atks2, ctks2, abtks2, cbtks2, abns2, cbns2, abks2, cbks2, rfl, hown, hb1⟩
      have hB : w.heap.size < wr.heap.size := (Array.getElem?_eq_some_iff.1 HU.out).1
      have hcur1 : w1.heap[w.heap.size]? = some (.cells cur 76 (0, 0)) := (hb1.block _ hB).trans HU.out
      have hsz : j * 12 + 11 < cur.size := by have := HS.out; omega
      have e0 : w1.cell? ⟨w.heap.size, j * 12, none⟩ = some (cur[j * 12]'(by omega)) := by simp [World.cell?, hcur1]
      have f0 : w1.frozen? ⟨w.heap.size, j * 12, none⟩ = false := by simp [World.frozen?, hcur1]
      have e1 : w1.cell? ⟨w.heap.size, j * 12 + 1, none⟩ = some (cur[j * 12 + 1]'(by omega)) := by simp [World.cell?, hcur1]
      have f1 : w1.frozen? ⟨w.heap.size, j * 12 + 1, none⟩ = false := by simp [World.frozen?, hcur1]
      have e2 : w1.cell? ⟨w.heap.size, j * 12 + 2, none⟩ = some (cur[j * 12 + 2]'(by omega)) := by simp [World.cell?, hcur1]
      have f2 : w1.frozen? ⟨w.heap.size, j * 12 + 2, none⟩ = false := by simp [World.frozen?, hcur1]
      have e3 : w1.cell? ⟨w.heap.size, j * 12 + 3, none⟩ = some (cur[j * 12 + 3]'(by omega)) := by simp [World.cell?, hcur1]
      have f3 : w1.frozen? ⟨w.heap.size, j * 12 + 3, none⟩ = false := by simp [World.frozen?, hcur1]
      have e4 : w1.cell? ⟨w.heap.size, j * 12 + 4, none⟩ = some (cur[j * 12 + 4]'(by omega)) := by simp [World.cell?, hcur1]
      have f4 : w1.frozen? ⟨w.heap.size, j * 12 + 4, none⟩ = false := by simp [World.frozen?, hcur1]
      have e5 : w1.cell? ⟨w.heap.size, j * 12 + 5, none⟩ = some (cur[j * 12 + 5]'(by omega)) := by simp [World.cell?, hcur1]
      have f5 : w1.frozen? ⟨w.heap.size, j * 12 + 5, none⟩ = false := by simp [World.frozen?, hcur1]
      have e6 : w1.cell? ⟨w.heap.size, j * 12 + 6, none⟩ = some (cur[j * 12 + 6]'(by omega)) := by simp [World.cell?, hcur1]
      have f6 : w1.frozen? ⟨w.heap.size, j * 12 + 6, none⟩ = false := by simp [World.frozen?, hcur1]
      have e7 : w1.cell? ⟨w.heap.size, j * 12 + 7, none⟩ = some (cur[j * 12 + 7]'(by omega)) := by simp [World.cell?, hcur1]
      have f7 : w1.frozen? ⟨w.heap.size, j * 12 + 7, none⟩ = false := by simp [World.frozen?, hcur1]
      have e8 : w1.cell? ⟨w.heap.size, j * 12 + 8, none⟩ = some (cur[j * 12 + 8]'(by omega)) := by simp [World.cell?, hcur1]
      have f8 : w1.frozen? ⟨w.heap.size, j * 12 + 8, none⟩ = false := by simp [World.frozen?, hcur1]
      have e9 : w1.cell? ⟨w.heap.size, j * 12 + 9, none⟩ = some (cur[j * 12 + 9]'(by omega)) := by simp [World.cell?, hcur1]
      have f9 : w1.frozen? ⟨w.heap.size, j * 12 + 9, none⟩ = false := by simp [World.frozen?, hcur1]
      have e10 : w1.cell? ⟨w.heap.size, j * 12 + 10, none⟩ = some (cur[j * 12 + 10]'(by omega)) := by simp [World.cell?, hcur1]
      have f10 : w1.frozen? ⟨w.heap.size, j * 12 + 10, none⟩ = false := by simp [World.frozen?, hcur1]
      have e11 : w1.cell? ⟨w.heap.size, j * 12 + 11, none⟩ = some (cur[j * 12 + 11]'(by omega)) := by simp [World.cell?, hcur1]
      have f11 : w1.frozen? ⟨w.heap.size, j * 12 + 11, none⟩ = false := by simp [World.frozen?, hcur1]
      have HCU := hid hcur1
      have HW := hid hown
      clear hcur1 hown
      go_wp2_with fail
      obtain ⟨F3, hr3, ho3⟩ := HW.out
      have hlo3 : ∀ y ∈ F3, wr.heap.size ≤ y := fun y hy => (ho3.2 y hy).1
      have hlo : ∀ x ∈ F, x < wr.heap.size := HO.lt
      obtain ⟨cur', H, g1, g2, g3, g4, g5⟩ := fill_step (m := 12) (base := w.heap.size + 1) HCU.out rfl (by have := HS.out; omega) (HR.out.below hb1) hr3 (HO.keep fun b hb => hb1.block b (hlo b hb)) (ho3.mono (by omega))
        (fun x hx => by have := (HO.2 x hx).1; omega) (fun x hx => by have := hlo3 x hx; omega) (fun x hx y hy => by have := hlo x hx; have := hlo3 y hy; omega)
      have hbw : Below w.heap.size w (setMany w1 w.heap.size (j * 12) [.string n1, .int .i64 tk1, .string tn1, .slice atks2 tks1.length ctks2, .int .i64 bk1, .int .i64 bu1, .string bn1, .int .i64 btk1, .string btn1, .slice abtks2 btks1.length cbtks2, .slice abns2 bns1.length cbns2, .slice abks2 bks1.length cbks2]) := Below.setMany _ _ (hb.trans (hb1.mono hb.size)) (Nat.le_refl _)
      have htk : Df.ds (ts.take (j + 1)) = Df.ds (ts.take j) ++ [Df.d (Df.mk n1 (Ty.mk tk1 tn1 tks1) (Tm.mk bk1 bu1 bn1 (Ty.mk btk1 btn1 btks1) bns1 bks1))] := Df.ds_snoc ts j _ HT.out
      go_roundw
      case rel => exact ⟨j + 1, by omega, by go_num, cur', H, g1, by show _ = _; rw [g2]; exact HS.out, by show RdAll _ _ _ _; rw [htk]; exact g3, g4, hbw⟩
      case measure => simp [intOf]; omega
    · obtain rfl : j = ts.length := by omega
      rw [List.take_length] at HR
      go_wp2_with fail
      go_ret
      obtain ⟨G, q1, q2⟩ := fill_done (m := 12) (base := w.heap.size) hcur HS.out (Df.ds_length ts) (by omega) HR.out (HO.mono (by omega)) (Nat.le_refl _) (fun x hx => by have := (HO.2 x hx).1; omega)
      exact ⟨_, _, rfl, ⟨G, q1, q2⟩, hb⟩

end Go.Proofs.YtikhofcjkcbpbaaGreatDoor
/- was: ToPg -/
namespace Go.Proofs.YtikhofcjkcbpbaaGreatDoor
open Go.ChangeShapes Go.WideShapes Go.ChangeAt Go.RowKit
open Go.Sort (grow)
set_option linter.unusedVariables false

/-- Handed back: the call's own copy. -/
def GivesPg (ds : List Dat) (fs : List Df) (w : World) (e : Ending) (w' : World) : Prop :=
  ∃ (ads : Option Addr) (cds : Nat) (afs : Option Addr) (cfs : Nat), e = .returned (.agg #[.slice ads ds.length cds, .slice afs fs.length cfs]) ∧ OwnS w' w.heap.size (Pg.d (Pg.mk ds fs)) [.slice ads ds.length cds, .slice afs fs.length cfs] ∧ Below w.heap.size w w'
def GivesPgs (ts : List Pg) (w : World) (e : Ending) (w' : World) : Prop :=
  ∃ (a : Option Addr) (c : Nat), e = .returned (.slice a ts.length c) ∧ OwnL w' w.heap.size (Pg.ds ts) (.slice a ts.length c) ∧ Below w.heap.size w w'
abbrev ToPg : Prop := ∀ (ds : List Dat) (fs : List Df) (ads : Option Addr) (cds : Nat) (afs : Option Addr) (cfs : Nat) (w : World), Pg.bulk (Pg.mk ds fs) ≤ 1048576 → RdS w (Pg.d (Pg.mk ds fs)) [.slice ads ds.length cds, .slice afs fs.length cfs] →
  Calls Tryz.prog 12 #[.agg #[.slice ads ds.length cds, .slice afs fs.length cfs]] w (GivesPg ds fs w)
theorem toPg : ToPg := by
  intro ds fs ads cds afs cfs w hM hr
  have hbk : Pg.bulk (Pg.mk ds fs) = Dat.bulks ds + Df.bulks fs := rfl
  obtain ⟨hds, hfs⟩ := hr.fPg
  have hc1 := fun (W : World) (hb : Below w.heap.size w W) => toDats ds ads cds W (by omega) (hds.below hb)
  have hc2 := fun (W : World) (hb : Below w.heap.size w W) => toDfs fs afs cfs W (by omega) (hfs.below hb)
  have HC1 := hid hc1
  have HC2 := hid hc2
  have hB0 : Below w.heap.size w (w.alloc (.cells #[.slice ads ds.length cds, .slice afs fs.length cfs] 43)) := (Below.refl _ _).alloc (Nat.le_refl _) _
  clear hr hbk hM hc1 hc2 hB0 hds hfs
  go_enter Tryz.func12, Tryz.ntmps12
  go_wp2_with fail
  refine (HC1.out _ ((((Below.refl _ _).alloc (Nat.le_refl _) _).alloc (by simp) _).alloc (by simp; omega) _)).mono ?_
  rintro e w1 ⟨ads_1, cds_1, rfl, ho1, hb1⟩
  obtain ⟨hcl1, hfz1⟩ := bcell hb1
  have hz1 : w.heap.size + 1 + 1 < w1.heap.size := by have := hb1.size; simp at this; omega
  have hy1 : w.heap.size + 1 < w1.heap.size := by omega
  have hx1 : w.heap.size < w1.heap.size := by omega
  have hbw1 : Below w.heap.size w w1 := ((((Below.refl _ _).alloc (Nat.le_refl _) _).alloc (by simp) _).alloc (by simp; omega) _).trans (hb1.mono (by simp; omega))
  have HO1 := hid (ho1.mono (base' := w.heap.size + 3) (by simp))
  have HT1 := hid (Nat.le_refl w1.heap.size)
  clear HC1 ho1
  have hbs1 := (hbw1.setCell (p := ⟨w.heap.size + 1 + 1, 0, none⟩) (by simp; omega) (.slice ads_1 ds.length cds_1))
  have HKS1 := hid ((Keeps.refl (w.heap.size + 3) w1).setCell (p := ⟨w.heap.size + 1 + 1, 0, none⟩) (by simp) (.slice ads_1 ds.length cds_1))
  go_wp2_with fail
  refine (HC2.out _ hbs1).mono ?_
  rintro e w2 ⟨afs_2, cfs_2, rfl, ho2, hb2⟩
  obtain ⟨hcl2, hfz2⟩ := bcell hb2
  have hz2 : w.heap.size + 1 + 1 < w2.heap.size := by have := hb2.size; simp at this; omega
  have hbw2 : Below w.heap.size w w2 := hbs1.trans (hb2.mono hbs1.size)
  have hsz2 : w1.heap.size ≤ w2.heap.size := by have := hb2.size; simpa using this
  have HK2 := hid (HKS1.out.below hb2)
  have HO2 := hid (ho2.mono (base' := w1.heap.size) (by simp))
  clear HC2 ho2 HKS1
  go_wp2_with fail
  refine bodyPost_ret (v := .agg #[.slice ads_1 ds.length cds_1, .slice afs_2 fs.length cfs_2]) (by simp [results, Tryz.results12, go_sem, hcl1, hcl2, hy1]) rfl ⟨ads_1, cds_1, afs_2, cfs_2, rfl, ?_, ?_⟩
  · have hfin := (((HK2.out.setCell (p := ⟨w.heap.size + 1 + 1, 1, none⟩) (by simp) (.slice afs_2 fs.length cfs_2)).setCell (p := ⟨w.heap.size + 1, 0, none⟩) (by simp) (.slice ads_1 ds.length cds_1)).setCell (p := ⟨w.heap.size + 1, 1, none⟩) (by simp) (.slice afs_2 fs.length cfs_2))
    have hfin2 := ((((Keeps.refl (w.heap.size + 3) w2).setCell (p := ⟨w.heap.size + 1 + 1, 1, none⟩) (by simp) (.slice afs_2 fs.length cfs_2)).setCell (p := ⟨w.heap.size + 1, 0, none⟩) (by simp) (.slice ads_1 ds.length cds_1)).setCell (p := ⟨w.heap.size + 1, 1, none⟩) (by simp) (.slice afs_2 fs.length cfs_2))
    have hp := (PartAll.cons (HO1.out.part.keeps hfin (by first | exact Nat.le_refl _ | omega) (Nat.le_refl _)) (PartAll.cons (HO2.out.part.keeps hfin2 (by first | exact Nat.le_refl _ | omega) (Nat.le_refl _)) (PartAll.nil _ w2.heap.size w2.heap.size) (Nat.le_refl _) (by omega) (by omega)) (Nat.le_refl _) (by omega) (by omega))
    exact OwnS.mono (base := w.heap.size + 3) hp.own (by omega)
  · exact (((hbw2.setCell (by simp; try omega) _).setCell (by simp; try omega) _).setCell (by simp; try omega) _)

theorem infoPg : (Tryz.prog.info? 49).map (fun i => (i.zero, i.size, i.bytes)) = some (some (.agg #[.slice none 0 0, .slice none 0 0]), 2, 48) := by kernel_rfl
end Go.Proofs.YtikhofcjkcbpbaaGreatDoor
/- was: ArCon -/
namespace Go.Proofs.YtikhofcjkcbpbaaGreatDoor
open Go.ChangeShapes Go.WideShapes Go.ChangeAt Go.RowKit
set_option linter.unusedVariables false

set_option maxRecDepth 100000 in
theorem typed_Con : ∀ (n : Nat) (d : D), Typed Tryz.prog n 152 d → ∃ t : Con, d = Con.d t
  | 0, _, h => by simp [Typed] at h
  | n + 1, d, h => by
    unfold Typed at h
    rw [Tryz.underlying152] at h
    obtain ⟨ds, rfl, h⟩ := h
    match ds, h with
    | [d0, d1], ⟨h0, h1, _⟩ =>
      match n, h0, h1 with
      | n + 1, h0, h1 =>
        unfold Typed at h0
        rw [Tryz.underlying9] at h0
        obtain ⟨x0, rfl⟩ := h0
        obtain ⟨x1, rfl⟩ := typed_Tys (n + 1) d1 h1
        exact ⟨.mk x0 x1, rfl⟩
set_option maxRecDepth 100000 in
theorem typed_Cons : ∀ (n : Nat) (d : D), Typed Tryz.prog n 108 d → ∃ ts : List Con, d = .list (Con.ds ts)
  | 0, _, h => by simp [Typed] at h
  | n + 1, d, h => by
    unfold Typed at h
    rw [Tryz.underlying108] at h
    obtain ⟨ds, rfl, h⟩ := h
    have key : ∀ ds : List D, (∀ x ∈ ds, Typed Tryz.prog n 152 x) → ∃ ts, ds = Con.ds ts := by
      intro ds
      induction ds with
      | nil => exact fun _ => ⟨[], rfl⟩
      | cons x xs ih =>
        intro hx
        obtain ⟨t, ht⟩ := typed_Con n x (hx x (by simp))
        obtain ⟨ts, hts⟩ := ih fun y hy => hx y (by simp [hy])
        exact ⟨t :: ts, by rw [ht, hts]; rfl⟩
    obtain ⟨ts, rfl⟩ := key ds h
    exact ⟨ts, rfl⟩

def tidsCon : List TypeId := [152, 9, 22, 24, 2]
theorem tidsCon_ok : tidsCon.all (okTy Tryz.prog tidsCon) = true := by kernel_rfl -- 152
theorem tidsCon_cells : tidsCon.all (fun t => match Tryz.prog.underlying t with | some (.int _) => Tryz.prog.cellsOf t == 1 | some .bool => Tryz.prog.cellsOf t == 1 | some .string => Tryz.prog.cellsOf t == 1 | some (.slice _) => Tryz.prog.cellsOf t == 1 | _ => true) = true := by kernel_rfl -- 152
set_option maxRecDepth 100000 in
/-- Handed in. -/
theorem arg_Con {H : Type} {enc : TypeId × Value → H} {W : World} {base : Nat} {vv : Value} {d : DataW H} {p : List MemPlace} (hv : Value.okWide Tryz.prog W .any base 152 vv)
    (h : DataW.Trod enc Tryz.prog W 0 (fun _ => true) true 152 vv d p) : ∃ (n : ByteArray) (fs : List Ty) (afs : Option Addr) (cfs : Nat), vv = .agg #[.string n, .slice afs fs.length cfs] ∧ RdS W (Con.d (Con.mk n fs)) [.string n, .slice afs fs.length cfs] := by
  obtain ⟨cs, rfl, _⟩ := okWide_struct Tryz.underlying152 hv
  obtain ⟨fuel, hf⟩ := h
  obtain ⟨_, d', F, h1, h2⟩ := trod_rd tidsCon_ok tidsCon_cells fuel _ _ _ (by simp [tidsCon]) hf
  obtain ⟨⟨n, fs⟩, rfl⟩ := typed_Con _ _ h2
  obtain ⟨afs, cfs, hc, -⟩ := h1.Con_inv
  rw [hc] at h1
  refine ⟨n, fs, afs, cfs, ?_, ⟨F, h1⟩⟩
  have : cs = #[.string n, .slice afs fs.length cfs] := by
    apply Array.toList_inj.1
    simpa [Value.cells] using hc
  rw [this]
def tidsCons : List TypeId := [108, 152, 9, 22, 24, 2]
theorem tidsCons_ok : tidsCons.all (okTy Tryz.prog tidsCons) = true := by kernel_rfl -- 108
theorem tidsCons_cells : tidsCons.all (fun t => match Tryz.prog.underlying t with | some (.int _) => Tryz.prog.cellsOf t == 1 | some .bool => Tryz.prog.cellsOf t == 1 | some .string => Tryz.prog.cellsOf t == 1 | some (.slice _) => Tryz.prog.cellsOf t == 1 | _ => true) = true := by kernel_rfl -- 108
set_option maxRecDepth 100000 in
/-- Handed in. -/
theorem arg_Cons {H : Type} {enc : TypeId × Value → H} {W : World} {base : Nat} {vv : Value} {d : DataW H} {p : List MemPlace} (hv : Value.okWide Tryz.prog W .any base 108 vv)
    (h : DataW.Trod enc Tryz.prog W 0 (fun _ => true) true 108 vv d p) : ∃ (ts : List Con) (a : Option Addr) (c : Nat), vv = .slice a ts.length c ∧ RdL W (Con.ds ts) (.slice a ts.length c) := by
  obtain ⟨_, _, _, rfl⟩ := okWide_slice Tryz.underlying108 hv
  obtain ⟨fuel, hf⟩ := h
  obtain ⟨_, d', F, h1, h2⟩ := trod_rd tidsCons_ok tidsCons_cells fuel _ _ _ (by simp [tidsCons]) hf
  obtain ⟨ts, rfl⟩ := typed_Cons _ _ h2
  obtain ⟨a, cap, hc, -⟩ := h1.list_inv
  rw [Con.ds_length] at hc
  simp only [Value.cells, List.cons.injEq, and_true] at hc
  rw [hc] at h1 ⊢
  exact ⟨ts, a, cap, rfl, F, h1⟩

end Go.Proofs.YtikhofcjkcbpbaaGreatDoor
/- was: ArDat -/
namespace Go.Proofs.YtikhofcjkcbpbaaGreatDoor
open Go.ChangeShapes Go.WideShapes Go.ChangeAt Go.RowKit
set_option linter.unusedVariables false

set_option maxRecDepth 100000 in
theorem typed_Dat : ∀ (n : Nat) (d : D), Typed Tryz.prog n 110 d → ∃ t : Dat, d = Dat.d t
  | 0, _, h => by simp [Typed] at h
  | n + 1, d, h => by
    unfold Typed at h
    rw [Tryz.underlying110] at h
    obtain ⟨ds, rfl, h⟩ := h
    match ds, h with
    | [d0, d1], ⟨h0, h1, _⟩ =>
      match n, h0, h1 with
      | n + 1, h0, h1 =>
        unfold Typed at h0
        rw [Tryz.underlying9] at h0
        obtain ⟨x0, rfl⟩ := h0
        obtain ⟨x1, rfl⟩ := typed_Cons (n + 1) d1 h1
        exact ⟨.mk x0 x1, rfl⟩
set_option maxRecDepth 100000 in
theorem typed_Dats : ∀ (n : Nat) (d : D), Typed Tryz.prog n 40 d → ∃ ts : List Dat, d = .list (Dat.ds ts)
  | 0, _, h => by simp [Typed] at h
  | n + 1, d, h => by
    unfold Typed at h
    rw [Tryz.underlying40] at h
    obtain ⟨ds, rfl, h⟩ := h
    have key : ∀ ds : List D, (∀ x ∈ ds, Typed Tryz.prog n 110 x) → ∃ ts, ds = Dat.ds ts := by
      intro ds
      induction ds with
      | nil => exact fun _ => ⟨[], rfl⟩
      | cons x xs ih =>
        intro hx
        obtain ⟨t, ht⟩ := typed_Dat n x (hx x (by simp))
        obtain ⟨ts, hts⟩ := ih fun y hy => hx y (by simp [hy])
        exact ⟨t :: ts, by rw [ht, hts]; rfl⟩
    obtain ⟨ts, rfl⟩ := key ds h
    exact ⟨ts, rfl⟩

def tidsDat : List TypeId := [110, 9, 108, 152, 22, 24, 2]
theorem tidsDat_ok : tidsDat.all (okTy Tryz.prog tidsDat) = true := by kernel_rfl -- 110
theorem tidsDat_cells : tidsDat.all (fun t => match Tryz.prog.underlying t with | some (.int _) => Tryz.prog.cellsOf t == 1 | some .bool => Tryz.prog.cellsOf t == 1 | some .string => Tryz.prog.cellsOf t == 1 | some (.slice _) => Tryz.prog.cellsOf t == 1 | _ => true) = true := by kernel_rfl -- 110
set_option maxRecDepth 100000 in
/-- Handed in. -/
theorem arg_Dat {H : Type} {enc : TypeId × Value → H} {W : World} {base : Nat} {vv : Value} {d : DataW H} {p : List MemPlace} (hv : Value.okWide Tryz.prog W .any base 110 vv)
    (h : DataW.Trod enc Tryz.prog W 0 (fun _ => true) true 110 vv d p) : ∃ (n : ByteArray) (qs : List Con) (aqs : Option Addr) (cqs : Nat), vv = .agg #[.string n, .slice aqs qs.length cqs] ∧ RdS W (Dat.d (Dat.mk n qs)) [.string n, .slice aqs qs.length cqs] := by
  obtain ⟨cs, rfl, _⟩ := okWide_struct Tryz.underlying110 hv
  obtain ⟨fuel, hf⟩ := h
  obtain ⟨_, d', F, h1, h2⟩ := trod_rd tidsDat_ok tidsDat_cells fuel _ _ _ (by simp [tidsDat]) hf
  obtain ⟨⟨n, qs⟩, rfl⟩ := typed_Dat _ _ h2
  obtain ⟨aqs, cqs, hc, -⟩ := h1.Dat_inv
  rw [hc] at h1
  refine ⟨n, qs, aqs, cqs, ?_, ⟨F, h1⟩⟩
  have : cs = #[.string n, .slice aqs qs.length cqs] := by
    apply Array.toList_inj.1
    simpa [Value.cells] using hc
  rw [this]
def tidsDats : List TypeId := [40, 110, 9, 108, 152, 22, 24, 2]
theorem tidsDats_ok : tidsDats.all (okTy Tryz.prog tidsDats) = true := by kernel_rfl -- 40
theorem tidsDats_cells : tidsDats.all (fun t => match Tryz.prog.underlying t with | some (.int _) => Tryz.prog.cellsOf t == 1 | some .bool => Tryz.prog.cellsOf t == 1 | some .string => Tryz.prog.cellsOf t == 1 | some (.slice _) => Tryz.prog.cellsOf t == 1 | _ => true) = true := by kernel_rfl -- 40
set_option maxRecDepth 100000 in
/-- Handed in. -/
theorem arg_Dats {H : Type} {enc : TypeId × Value → H} {W : World} {base : Nat} {vv : Value} {d : DataW H} {p : List MemPlace} (hv : Value.okWide Tryz.prog W .any base 40 vv)
    (h : DataW.Trod enc Tryz.prog W 0 (fun _ => true) true 40 vv d p) : ∃ (ts : List Dat) (a : Option Addr) (c : Nat), vv = .slice a ts.length c ∧ RdL W (Dat.ds ts) (.slice a ts.length c) := by
  obtain ⟨_, _, _, rfl⟩ := okWide_slice Tryz.underlying40 hv
  obtain ⟨fuel, hf⟩ := h
  obtain ⟨_, d', F, h1, h2⟩ := trod_rd tidsDats_ok tidsDats_cells fuel _ _ _ (by simp [tidsDats]) hf
  obtain ⟨ts, rfl⟩ := typed_Dats _ _ h2
  obtain ⟨a, cap, hc, -⟩ := h1.list_inv
  rw [Dat.ds_length] at hc
  simp only [Value.cells, List.cons.injEq, and_true] at hc
  rw [hc] at h1 ⊢
  exact ⟨ts, a, cap, rfl, F, h1⟩

end Go.Proofs.YtikhofcjkcbpbaaGreatDoor
/- was: ArDf -/
namespace Go.Proofs.YtikhofcjkcbpbaaGreatDoor
open Go.ChangeShapes Go.WideShapes Go.ChangeAt Go.RowKit
set_option linter.unusedVariables false

set_option maxRecDepth 100000 in
theorem typed_Df : ∀ (n : Nat) (d : D), Typed Tryz.prog n 113 d → ∃ t : Df, d = Df.d t
  | 0, _, h => by simp [Typed] at h
  | n + 1, d, h => by
    unfold Typed at h
    rw [Tryz.underlying113] at h
    obtain ⟨ds, rfl, h⟩ := h
    match ds, h with
    | [d0, d1, d2], ⟨h0, h1, h2, _⟩ =>
      match n, h0, h1, h2 with
      | n + 1, h0, h1, h2 =>
        unfold Typed at h0
        rw [Tryz.underlying9] at h0
        obtain ⟨x0, rfl⟩ := h0
        obtain ⟨x1, rfl⟩ := typed_Ty (n + 1) d1 h1
        obtain ⟨x2, rfl⟩ := typed_Tm (n + 1) d2 h2
        exact ⟨.mk x0 x1 x2, rfl⟩
set_option maxRecDepth 100000 in
theorem typed_Dfs : ∀ (n : Nat) (d : D), Typed Tryz.prog n 41 d → ∃ ts : List Df, d = .list (Df.ds ts)
  | 0, _, h => by simp [Typed] at h
  | n + 1, d, h => by
    unfold Typed at h
    rw [Tryz.underlying41] at h
    obtain ⟨ds, rfl, h⟩ := h
    have key : ∀ ds : List D, (∀ x ∈ ds, Typed Tryz.prog n 113 x) → ∃ ts, ds = Df.ds ts := by
      intro ds
      induction ds with
      | nil => exact fun _ => ⟨[], rfl⟩
      | cons x xs ih =>
        intro hx
        obtain ⟨t, ht⟩ := typed_Df n x (hx x (by simp))
        obtain ⟨ts, hts⟩ := ih fun y hy => hx y (by simp [hy])
        exact ⟨t :: ts, by rw [ht, hts]; rfl⟩
    obtain ⟨ts, rfl⟩ := key ds h
    exact ⟨ts, rfl⟩

def tidsDf : List TypeId := [113, 9, 24, 2, 22, 28, 25, 26]
theorem tidsDf_ok : tidsDf.all (okTy Tryz.prog tidsDf) = true := by kernel_rfl -- 113
theorem tidsDf_cells : tidsDf.all (fun t => match Tryz.prog.underlying t with | some (.int _) => Tryz.prog.cellsOf t == 1 | some .bool => Tryz.prog.cellsOf t == 1 | some .string => Tryz.prog.cellsOf t == 1 | some (.slice _) => Tryz.prog.cellsOf t == 1 | _ => true) = true := by kernel_rfl -- 113
set_option maxRecDepth 100000 in
/-- Handed in. -/
theorem arg_Df {H : Type} {enc : TypeId × Value → H} {W : World} {base : Nat} {vv : Value} {d : DataW H} {p : List MemPlace} (hv : Value.okWide Tryz.prog W .any base 113 vv)
    (h : DataW.Trod enc Tryz.prog W 0 (fun _ => true) true 113 vv d p) : ∃ (n : ByteArray) (tk : Int) (tn : ByteArray) (tks : List Ty) (bk : Int) (bu : Int) (bn : ByteArray) (btk : Int) (btn : ByteArray) (btks : List Ty) (bns : List ByteArray) (bks : List Tm) (atks : Option Addr) (ctks : Nat) (abtks : Option Addr) (cbtks : Nat) (abns : Option Addr) (cbns : Nat) (abks : Option Addr) (cbks : Nat), vv = .agg #[.string n, .int .i64 tk, .string tn, .slice atks tks.length ctks, .int .i64 bk, .int .i64 bu, .string bn, .int .i64 btk, .string btn, .slice abtks btks.length cbtks, .slice abns bns.length cbns, .slice abks bks.length cbks] ∧ RdS W (Df.d (Df.mk n (Ty.mk tk tn tks) (Tm.mk bk bu bn (Ty.mk btk btn btks) bns bks))) [.string n, .int .i64 tk, .string tn, .slice atks tks.length ctks, .int .i64 bk, .int .i64 bu, .string bn, .int .i64 btk, .string btn, .slice abtks btks.length cbtks, .slice abns bns.length cbns, .slice abks bks.length cbks] := by
  obtain ⟨cs, rfl, _⟩ := okWide_struct Tryz.underlying113 hv
  obtain ⟨fuel, hf⟩ := h
  obtain ⟨_, d', F, h1, h2⟩ := trod_rd tidsDf_ok tidsDf_cells fuel _ _ _ (by simp [tidsDf]) hf
  obtain ⟨⟨n, ⟨tk, tn, tks⟩, ⟨bk, bu, bn, ⟨btk, btn, btks⟩, bns, bks⟩⟩, rfl⟩ := typed_Df _ _ h2
  obtain ⟨atks, ctks, abtks, cbtks, abns, cbns, abks, cbks, hc, -⟩ := h1.Df_inv
  rw [hc] at h1
  refine ⟨n, tk, tn, tks, bk, bu, bn, btk, btn, btks, bns, bks, atks, ctks, abtks, cbtks, abns, cbns, abks, cbks, ?_, ⟨F, h1⟩⟩
  have : cs = #[.string n, .int .i64 tk, .string tn, .slice atks tks.length ctks, .int .i64 bk, .int .i64 bu, .string bn, .int .i64 btk, .string btn, .slice abtks btks.length cbtks, .slice abns bns.length cbns, .slice abks bks.length cbks] := by
    apply Array.toList_inj.1
    simpa [Value.cells] using hc
  rw [this]
def tidsDfs : List TypeId := [41, 113, 9, 24, 2, 22, 28, 25, 26]
theorem tidsDfs_ok : tidsDfs.all (okTy Tryz.prog tidsDfs) = true := by kernel_rfl -- 41
theorem tidsDfs_cells : tidsDfs.all (fun t => match Tryz.prog.underlying t with | some (.int _) => Tryz.prog.cellsOf t == 1 | some .bool => Tryz.prog.cellsOf t == 1 | some .string => Tryz.prog.cellsOf t == 1 | some (.slice _) => Tryz.prog.cellsOf t == 1 | _ => true) = true := by kernel_rfl -- 41
set_option maxRecDepth 100000 in
/-- Handed in. -/
theorem arg_Dfs {H : Type} {enc : TypeId × Value → H} {W : World} {base : Nat} {vv : Value} {d : DataW H} {p : List MemPlace} (hv : Value.okWide Tryz.prog W .any base 41 vv)
    (h : DataW.Trod enc Tryz.prog W 0 (fun _ => true) true 41 vv d p) : ∃ (ts : List Df) (a : Option Addr) (c : Nat), vv = .slice a ts.length c ∧ RdL W (Df.ds ts) (.slice a ts.length c) := by
  obtain ⟨_, _, _, rfl⟩ := okWide_slice Tryz.underlying41 hv
  obtain ⟨fuel, hf⟩ := h
  obtain ⟨_, d', F, h1, h2⟩ := trod_rd tidsDfs_ok tidsDfs_cells fuel _ _ _ (by simp [tidsDfs]) hf
  obtain ⟨ts, rfl⟩ := typed_Dfs _ _ h2
  obtain ⟨a, cap, hc, -⟩ := h1.list_inv
  rw [Df.ds_length] at hc
  simp only [Value.cells, List.cons.injEq, and_true] at hc
  rw [hc] at h1 ⊢
  exact ⟨ts, a, cap, rfl, F, h1⟩

end Go.Proofs.YtikhofcjkcbpbaaGreatDoor
/- was: ArPg -/
namespace Go.Proofs.YtikhofcjkcbpbaaGreatDoor
open Go.ChangeShapes Go.WideShapes Go.ChangeAt Go.RowKit
set_option linter.unusedVariables false

set_option maxRecDepth 100000 in
theorem typed_Pg : ∀ (n : Nat) (d : D), Typed Tryz.prog n 43 d → ∃ t : Pg, d = Pg.d t
  | 0, _, h => by simp [Typed] at h
  | n + 1, d, h => by
    unfold Typed at h
    rw [Tryz.underlying43] at h
    obtain ⟨ds, rfl, h⟩ := h
    match ds, h with
    | [d0, d1], ⟨h0, h1, _⟩ =>
      match n, h0, h1 with
      | n + 1, h0, h1 =>
        obtain ⟨x0, rfl⟩ := typed_Dats (n + 1) d0 h0
        obtain ⟨x1, rfl⟩ := typed_Dfs (n + 1) d1 h1
        exact ⟨.mk x0 x1, rfl⟩
def tidsPg : List TypeId := [43, 40, 110, 9, 108, 152, 22, 24, 2, 41, 113, 28, 25, 26]
theorem tidsPg_ok : tidsPg.all (okTy Tryz.prog tidsPg) = true := by kernel_rfl -- 43
theorem tidsPg_cells : tidsPg.all (fun t => match Tryz.prog.underlying t with | some (.int _) => Tryz.prog.cellsOf t == 1 | some .bool => Tryz.prog.cellsOf t == 1 | some .string => Tryz.prog.cellsOf t == 1 | some (.slice _) => Tryz.prog.cellsOf t == 1 | _ => true) = true := by kernel_rfl -- 43
set_option maxRecDepth 100000 in
/-- Handed in. -/
theorem arg_Pg {H : Type} {enc : TypeId × Value → H} {W : World} {base : Nat} {vv : Value} {d : DataW H} {p : List MemPlace} (hv : Value.okWide Tryz.prog W .any base 43 vv)
    (h : DataW.Trod enc Tryz.prog W 0 (fun _ => true) true 43 vv d p) : ∃ (ds : List Dat) (fs : List Df) (ads : Option Addr) (cds : Nat) (afs : Option Addr) (cfs : Nat), vv = .agg #[.slice ads ds.length cds, .slice afs fs.length cfs] ∧ RdS W (Pg.d (Pg.mk ds fs)) [.slice ads ds.length cds, .slice afs fs.length cfs] := by
  obtain ⟨cs, rfl, _⟩ := okWide_struct Tryz.underlying43 hv
  obtain ⟨fuel, hf⟩ := h
  obtain ⟨_, d', F, h1, h2⟩ := trod_rd tidsPg_ok tidsPg_cells fuel _ _ _ (by simp [tidsPg]) hf
  obtain ⟨⟨ds, fs⟩, rfl⟩ := typed_Pg _ _ h2
  obtain ⟨ads, cds, afs, cfs, hc, -⟩ := h1.Pg_inv
  rw [hc] at h1
  refine ⟨ds, fs, ads, cds, afs, cfs, ?_, ⟨F, h1⟩⟩
  have : cs = #[.slice ads ds.length cds, .slice afs fs.length cfs] := by
    apply Array.toList_inj.1
    simpa [Value.cells] using hc
  rw [this]
end Go.Proofs.YtikhofcjkcbpbaaGreatDoor
/- was: EqCon -/
namespace Go.Proofs.YtikhofcjkcbpbaaGreatDoor
open Go.ChangeShapes Go.WideShapes Go.ChangeAt Go.RowKit
open Go.Sort (grow)
set_option linter.unusedVariables false

abbrev EqCon : Prop := ∀ (n : ByteArray) (fs : List Ty) (afs : Option Addr) (cfs : Nat) (afs' : Option Addr) (cfs' : Nat) (w : World), RdS w (Con.d (Con.mk n fs)) [.string n, .slice afs fs.length cfs] → RdS w (Con.d (Con.mk n fs)) [.string n, .slice afs' fs.length cfs'] →
  Calls Tryz.prog 122 #[.agg #[.string n, .slice afs fs.length cfs], .agg #[.string n, .slice afs' fs.length cfs']] w fun e w' => e = .returned (.bool true) ∧ Below w.heap.size w w'
theorem eqCon : EqCon := by
  intro n fs afs cfs afs' cfs' w hr hr'
  have hbk : Con.bulk (Con.mk n fs) = n.size + Ty.bulks fs := rfl
  obtain ⟨zn, hfs⟩ := hr.fCon
  obtain ⟨zn', hfs'⟩ := hr'.fCon
  have hc1 := fun (W : World) (hb : Below w.heap.size w W) => eqTys fs afs afs' cfs cfs' W (hfs.below hb) (hfs'.below hb)
  have HC1 := hid hc1
  have HX0 := hid (((Boxes.nil w).alloc #[.string n, .slice afs fs.length cfs] 85 (0, 0)).alloc #[.string n, .slice afs' fs.length cfs'] 85 (0, 0))
  have HB0 := hid (((Below.refl w.heap.size w).alloc (Nat.le_refl _) (.cells #[.string n, .slice afs fs.length cfs] 85)).alloc (by simp) (.cells #[.string n, .slice afs' fs.length cfs'] 85))
  clear hr hr' hbk hc1 hfs hfs'
  go_enter Tryz.func122, Tryz.ntmps122
  go_wp2_with fail
  refine (HC1.out _ HB0.out).mono ?_
  rintro e w1 ⟨rfl, hb1⟩
  have hbw1 := HB0.out.trans (hb1.mono (by simp; omega))
  have hx1 := HX0.out.below hb1
  have HX1 := hid hx1
  clear hx1 hb1 HC1
  go_wp2_with fail
  go_ret
  exact ⟨rfl, hbw1⟩

theorem eqCons (ts : List Con) (a a' : Option Addr) (c c' : Nat) (w : World) (hr : RdL w (Con.ds ts) (.slice a ts.length c)) (hr' : RdL w (Con.ds ts) (.slice a' ts.length c')) :
    Calls Tryz.prog 98 #[.slice a ts.length c, .slice a' ts.length c'] w fun e w' => e = .returned (.bool true) ∧ Below w.heap.size w w' := by
  obtain ⟨_, _, e, h2, h3, h4⟩ := hr.eCon
  simp only [Value.slice.injEq, true_and] at e
  obtain ⟨rfl, rfl⟩ := e
  obtain ⟨_, _, e, h2', h3', h4'⟩ := hr'.eCon
  simp only [Value.slice.injEq, true_and] at e
  obtain ⟨rfl, rfl⟩ := e
  have H4 := hid h4
  have H4' := hid h4'
  clear hr h4 hr' h4'
  go_enter Tryz.func98, Tryz.ntmps98
  go_wp2_with fail
  go_loopw [5] (fun i wr => ∃ (j : Nat), j ≤ ts.length ∧ i = .int .i64 j ∧ Below w.heap.size w wr) (fun i _ => ts.length - (intOf i).toNat)
  case atStart => exact ⟨0, by omega, rfl, Below.refl _ _⟩
  case round =>
    obtain ⟨j, hj, rfl, hb⟩ := hrel
    by_cases hlt : j < ts.length
    · obtain ⟨b, o, rfl, hbl, hall⟩ := H4.out (by omega)
      obtain ⟨b', o', rfl, hbl', hall'⟩ := H4'.out (by omega)
      obtain ⟨t, ht⟩ : ∃ t, ts[j]? = some t := ⟨_, List.getElem?_eq_getElem hlt⟩
      obtain ⟨n1, fs1⟩ := t
      obtain ⟨afs1, cfs1, q0, q1, hrk⟩ := hall j n1 fs1 ht
      obtain ⟨afs2, cfs2, p0, p1, hrk'⟩ := hall' j n1 fs1 ht
      clear hall H4 hall' H4'
      have d0 := cell_regrown ((hb.cell (p := ⟨b, o + j * 2, none⟩) hbl).trans q0)
      have d2 := cell_regrown ((hb.cell (p := ⟨b', o' + j * 2, none⟩) hbl').trans p0)
      have d1 := cell_regrown ((hb.cell (p := ⟨b, o + j * 2 + 1, none⟩) hbl).trans q1)
      have d3 := cell_regrown ((hb.cell (p := ⟨b', o' + j * 2 + 1, none⟩) hbl').trans p1)
      have hbg := Con.bulk_get ts j _ ht
      have hc := fun d os => Calls.regrown_of (eqCon n1 fs1 afs1 cfs1 afs2 cfs2 (grow (redrawn wr d) os) ((hrk.below hb).below (below_regrown wr d os)) ((hrk'.below hb).below (below_regrown wr d os)))
      have HC := hid hc
      clear ht hrk hrk' q0 q1 p0 p1 hc
      go_wp2_with fail
      refine wp_region_quiet_below (by kernel_rfl) (by kernel_rfl) ?_
      repeat (quiet_step (exact HC.out _ _))
      refine wpQuiet_nil ?_
      intro _ hw'
      obtain ⟨⟨dq, osq⟩, hw''⟩ := hw'
      subst hw''
      have hbq := hb.trans ((below_regrown wr dq osq).mono hb.size)
      clear HC d0 d1 d2 d3
      go_wp2_with fail
      go_roundw
      case rel => exact ⟨j + 1, by omega, by go_num, hbq⟩
      case measure => simp [intOf]; omega
    · go_wp2_with fail
      go_ret
      exact ⟨rfl, hb⟩

end Go.Proofs.YtikhofcjkcbpbaaGreatDoor
/- was: EqDat -/
namespace Go.Proofs.YtikhofcjkcbpbaaGreatDoor
open Go.ChangeShapes Go.WideShapes Go.ChangeAt Go.RowKit
open Go.Sort (grow)
set_option linter.unusedVariables false

abbrev EqDat : Prop := ∀ (n : ByteArray) (qs : List Con) (aqs : Option Addr) (cqs : Nat) (aqs' : Option Addr) (cqs' : Nat) (w : World), RdS w (Dat.d (Dat.mk n qs)) [.string n, .slice aqs qs.length cqs] → RdS w (Dat.d (Dat.mk n qs)) [.string n, .slice aqs' qs.length cqs'] →
  Calls Tryz.prog 71 #[.agg #[.string n, .slice aqs qs.length cqs], .agg #[.string n, .slice aqs' qs.length cqs']] w fun e w' => e = .returned (.bool true) ∧ Below w.heap.size w w'
theorem eqDat : EqDat := by
  intro n qs aqs cqs aqs' cqs' w hr hr'
  have hbk : Dat.bulk (Dat.mk n qs) = n.size + Con.bulks qs := rfl
  obtain ⟨zn, hqs⟩ := hr.fDat
  obtain ⟨zn', hqs'⟩ := hr'.fDat
  have hc1 := fun (W : World) (hb : Below w.heap.size w W) => eqCons qs aqs aqs' cqs cqs' W (hqs.below hb) (hqs'.below hb)
  have HC1 := hid hc1
  have HX0 := hid (((Boxes.nil w).alloc #[.string n, .slice aqs qs.length cqs] 74 (0, 0)).alloc #[.string n, .slice aqs' qs.length cqs'] 74 (0, 0))
  have HB0 := hid (((Below.refl w.heap.size w).alloc (Nat.le_refl _) (.cells #[.string n, .slice aqs qs.length cqs] 74)).alloc (by simp) (.cells #[.string n, .slice aqs' qs.length cqs'] 74))
  clear hr hr' hbk hc1 hqs hqs'
  go_enter Tryz.func71, Tryz.ntmps71
  go_wp2_with fail
  refine (HC1.out _ HB0.out).mono ?_
  rintro e w1 ⟨rfl, hb1⟩
  have hbw1 := HB0.out.trans (hb1.mono (by simp; omega))
  have hx1 := HX0.out.below hb1
  have HX1 := hid hx1
  clear hx1 hb1 HC1
  go_wp2_with fail
  go_ret
  exact ⟨rfl, hbw1⟩

theorem eqDats (ts : List Dat) (a a' : Option Addr) (c c' : Nat) (w : World) (hr : RdL w (Dat.ds ts) (.slice a ts.length c)) (hr' : RdL w (Dat.ds ts) (.slice a' ts.length c')) :
    Calls Tryz.prog 42 #[.slice a ts.length c, .slice a' ts.length c'] w fun e w' => e = .returned (.bool true) ∧ Below w.heap.size w w' := by
  obtain ⟨_, _, e, h2, h3, h4⟩ := hr.eDat
  simp only [Value.slice.injEq, true_and] at e
  obtain ⟨rfl, rfl⟩ := e
  obtain ⟨_, _, e, h2', h3', h4'⟩ := hr'.eDat
  simp only [Value.slice.injEq, true_and] at e
  obtain ⟨rfl, rfl⟩ := e
  have H4 := hid h4
  have H4' := hid h4'
  clear hr h4 hr' h4'
  go_enter Tryz.func42, Tryz.ntmps42
  go_wp2_with fail
  go_loopw [5] (fun i wr => ∃ (j : Nat), j ≤ ts.length ∧ i = .int .i64 j ∧ Below w.heap.size w wr) (fun i _ => ts.length - (intOf i).toNat)
  case atStart => exact ⟨0, by omega, rfl, Below.refl _ _⟩
  case round =>
    obtain ⟨j, hj, rfl, hb⟩ := hrel
    by_cases hlt : j < ts.length
    · obtain ⟨b, o, rfl, hbl, hall⟩ := H4.out (by omega)
      obtain ⟨b', o', rfl, hbl', hall'⟩ := H4'.out (by omega)
      obtain ⟨t, ht⟩ : ∃ t, ts[j]? = some t := ⟨_, List.getElem?_eq_getElem hlt⟩
      obtain ⟨n1, qs1⟩ := t
      obtain ⟨aqs1, cqs1, q0, q1, hrk⟩ := hall j n1 qs1 ht
      obtain ⟨aqs2, cqs2, p0, p1, hrk'⟩ := hall' j n1 qs1 ht
      clear hall H4 hall' H4'
      have d0 := cell_regrown ((hb.cell (p := ⟨b, o + j * 2, none⟩) hbl).trans q0)
      have d2 := cell_regrown ((hb.cell (p := ⟨b', o' + j * 2, none⟩) hbl').trans p0)
      have d1 := cell_regrown ((hb.cell (p := ⟨b, o + j * 2 + 1, none⟩) hbl).trans q1)
      have d3 := cell_regrown ((hb.cell (p := ⟨b', o' + j * 2 + 1, none⟩) hbl').trans p1)
      have hbg := Dat.bulk_get ts j _ ht
      have hc := fun d os => Calls.regrown_of (eqDat n1 qs1 aqs1 cqs1 aqs2 cqs2 (grow (redrawn wr d) os) ((hrk.below hb).below (below_regrown wr d os)) ((hrk'.below hb).below (below_regrown wr d os)))
      have HC := hid hc
      clear ht hrk hrk' q0 q1 p0 p1 hc
      go_wp2_with fail
      refine wp_region_quiet_below (by kernel_rfl) (by kernel_rfl) ?_
      repeat (quiet_step (exact HC.out _ _))
      refine wpQuiet_nil ?_
      intro _ hw'
      obtain ⟨⟨dq, osq⟩, hw''⟩ := hw'
      subst hw''
      have hbq := hb.trans ((below_regrown wr dq osq).mono hb.size)
      clear HC d0 d1 d2 d3
      go_wp2_with fail
      go_roundw
      case rel => exact ⟨j + 1, by omega, by go_num, hbq⟩
      case measure => simp [intOf]; omega
    · go_wp2_with fail
      go_ret
      exact ⟨rfl, hb⟩

end Go.Proofs.YtikhofcjkcbpbaaGreatDoor
/- was: EqDf -/
namespace Go.Proofs.YtikhofcjkcbpbaaGreatDoor
open Go.ChangeShapes Go.WideShapes Go.ChangeAt Go.RowKit
open Go.Sort (grow)
set_option linter.unusedVariables false

abbrev EqDf : Prop := ∀ (n : ByteArray) (tk : Int) (tn : ByteArray) (tks : List Ty) (bk : Int) (bu : Int) (bn : ByteArray) (btk : Int) (btn : ByteArray) (btks : List Ty) (bns : List ByteArray) (bks : List Tm) (atks : Option Addr) (ctks : Nat) (abtks : Option Addr) (cbtks : Nat) (abns : Option Addr) (cbns : Nat) (abks : Option Addr) (cbks : Nat) (atks' : Option Addr) (ctks' : Nat) (abtks' : Option Addr) (cbtks' : Nat) (abns' : Option Addr) (cbns' : Nat) (abks' : Option Addr) (cbks' : Nat) (w : World), RdS w (Df.d (Df.mk n (Ty.mk tk tn tks) (Tm.mk bk bu bn (Ty.mk btk btn btks) bns bks))) [.string n, .int .i64 tk, .string tn, .slice atks tks.length ctks, .int .i64 bk, .int .i64 bu, .string bn, .int .i64 btk, .string btn, .slice abtks btks.length cbtks, .slice abns bns.length cbns, .slice abks bks.length cbks] → RdS w (Df.d (Df.mk n (Ty.mk tk tn tks) (Tm.mk bk bu bn (Ty.mk btk btn btks) bns bks))) [.string n, .int .i64 tk, .string tn, .slice atks' tks.length ctks', .int .i64 bk, .int .i64 bu, .string bn, .int .i64 btk, .string btn, .slice abtks' btks.length cbtks', .slice abns' bns.length cbns', .slice abks' bks.length cbks'] →
  Calls Tryz.prog 72 #[.agg #[.string n, .int .i64 tk, .string tn, .slice atks tks.length ctks, .int .i64 bk, .int .i64 bu, .string bn, .int .i64 btk, .string btn, .slice abtks btks.length cbtks, .slice abns bns.length cbns, .slice abks bks.length cbks], .agg #[.string n, .int .i64 tk, .string tn, .slice atks' tks.length ctks', .int .i64 bk, .int .i64 bu, .string bn, .int .i64 btk, .string btn, .slice abtks' btks.length cbtks', .slice abns' bns.length cbns', .slice abks' bks.length cbks']] w fun e w' => e = .returned (.bool true) ∧ Below w.heap.size w w'
theorem eqDf : EqDf := by
  intro n tk tn tks bk bu bn btk btn btks bns bks atks ctks abtks cbtks abns cbns abks cbks atks' ctks' abtks' cbtks' abns' cbns' abks' cbks' w hr hr'
  have hbk : Df.bulk (Df.mk n (Ty.mk tk tn tks) (Tm.mk bk bu bn (Ty.mk btk btn btks) bns bks)) = n.size + Ty.bulk (Ty.mk tk tn tks) + Tm.bulk (Tm.mk bk bu bn (Ty.mk btk btn btks) bns bks) := rfl
  obtain ⟨zn, ⟨⟨lotk, hitk⟩, ztn, htks⟩, ⟨⟨lobk, hibk⟩, ⟨lobu, hibu⟩, zbn, ⟨⟨lobtk, hibtk⟩, zbtn, hbtks⟩, hbns, hbks⟩⟩ := hr.fDf
  obtain ⟨zn', ⟨⟨lotk', hitk'⟩, ztn', htks'⟩, ⟨⟨lobk', hibk'⟩, ⟨lobu', hibu'⟩, zbn', ⟨⟨lobtk', hibtk'⟩, zbtn', hbtks'⟩, hbns', hbks'⟩⟩ := hr'.fDf
  have hc1 := fun (W : World) (hb : Below w.heap.size w W) => eqTy tk tn tks atks ctks atks' ctks' W ((RdS.subDf_t hr).below hb) ((RdS.subDf_t hr').below hb)
  have hc2 := fun (W : World) (hb : Below w.heap.size w W) => eqTm bk bu bn btk btn btks bns bks abtks cbtks abns cbns abks cbks abtks' cbtks' abns' cbns' abks' cbks' W ((RdS.subDf_b hr).below hb) ((RdS.subDf_b hr').below hb)
  have HC1 := hid hc1
  have HC2 := hid hc2
  have HX0 := hid (((Boxes.nil w).alloc #[.string n, .int .i64 tk, .string tn, .slice atks tks.length ctks, .int .i64 bk, .int .i64 bu, .string bn, .int .i64 btk, .string btn, .slice abtks btks.length cbtks, .slice abns bns.length cbns, .slice abks bks.length cbks] 76 (0, 0)).alloc #[.string n, .int .i64 tk, .string tn, .slice atks' tks.length ctks', .int .i64 bk, .int .i64 bu, .string bn, .int .i64 btk, .string btn, .slice abtks' btks.length cbtks', .slice abns' bns.length cbns', .slice abks' bks.length cbks'] 76 (0, 0))
  have HB0 := hid (((Below.refl w.heap.size w).alloc (Nat.le_refl _) (.cells #[.string n, .int .i64 tk, .string tn, .slice atks tks.length ctks, .int .i64 bk, .int .i64 bu, .string bn, .int .i64 btk, .string btn, .slice abtks btks.length cbtks, .slice abns bns.length cbns, .slice abks bks.length cbks] 76)).alloc (by simp) (.cells #[.string n, .int .i64 tk, .string tn, .slice atks' tks.length ctks', .int .i64 bk, .int .i64 bu, .string bn, .int .i64 btk, .string btn, .slice abtks' btks.length cbtks', .slice abns' bns.length cbns', .slice abks' bks.length cbks'] 76))
  clear hr hr' hbk hc1 hc2 htks htks' hbtks hbtks' hbns hbns' hbks hbks'
  go_enter Tryz.func72, Tryz.ntmps72
  go_wp2_with fail
  refine (HC1.out _ HB0.out).mono ?_
  rintro e w1 ⟨rfl, hb1⟩
  have hbw1 := HB0.out.trans (hb1.mono (by simp; omega))
  have hx1 := HX0.out.below hb1
  have g1_4 := hx1.at 1 4 rfl rfl
  have k1_4 := hx1.at 0 4 rfl rfl
  have g1_5 := hx1.at 1 5 rfl rfl
  have k1_5 := hx1.at 0 5 rfl rfl
  have g1_6 := hx1.at 1 6 rfl rfl
  have k1_6 := hx1.at 0 6 rfl rfl
  have g1_7 := hx1.at 1 7 rfl rfl
  have k1_7 := hx1.at 0 7 rfl rfl
  have g1_8 := hx1.at 1 8 rfl rfl
  have k1_8 := hx1.at 0 8 rfl rfl
  have g1_9 := hx1.at 1 9 rfl rfl
  have k1_9 := hx1.at 0 9 rfl rfl
  have g1_10 := hx1.at 1 10 rfl rfl
  have k1_10 := hx1.at 0 10 rfl rfl
  have g1_11 := hx1.at 1 11 rfl rfl
  have k1_11 := hx1.at 0 11 rfl rfl
  simp only [World.size_alloc] at k1_4 k1_5 k1_6 k1_7 k1_8 k1_9 k1_10 k1_11
  have HX1 := hid hx1
  clear hx1 hb1 HC1
  go_wp2_with fail
  refine (HC2.out _ hbw1).mono ?_
  rintro e w2 ⟨rfl, hb2⟩
  have hbw2 := hbw1.trans (hb2.mono (by exact hbw1.size))
  have hx2 := HX1.out.below hb2
  have HX2 := hid hx2
  clear hx2 hb2 HC2
  go_wp2_with fail
  go_ret
  exact ⟨rfl, hbw2⟩

theorem eqDfs (ts : List Df) (a a' : Option Addr) (c c' : Nat) (w : World) (hr : RdL w (Df.ds ts) (.slice a ts.length c)) (hr' : RdL w (Df.ds ts) (.slice a' ts.length c')) :
    Calls Tryz.prog 43 #[.slice a ts.length c, .slice a' ts.length c'] w fun e w' => e = .returned (.bool true) ∧ Below w.heap.size w w' := by
  obtain ⟨_, _, e, h2, h3, h4⟩ := hr.eDf
  simp only [Value.slice.injEq, true_and] at e
  obtain ⟨rfl, rfl⟩ := e
  obtain ⟨_, _, e, h2', h3', h4'⟩ := hr'.eDf
  simp only [Value.slice.injEq, true_and] at e
  obtain ⟨rfl, rfl⟩ := e
  have H4 := hid h4
  have H4' := hid h4'
  clear hr h4 hr' h4'
  go_enter Tryz.func43, Tryz.ntmps43
  go_wp2_with fail
  go_loopw [5] (fun i wr => ∃ (j : Nat), j ≤ ts.length ∧ i = .int .i64 j ∧ Below w.heap.size w wr) (fun i _ => ts.length - (intOf i).toNat)
  case atStart => exact ⟨0, by omega, rfl, Below.refl _ _⟩
  case round =>
    obtain ⟨j, hj, rfl, hb⟩ := hrel
    by_cases hlt : j < ts.length
    · obtain ⟨b, o, rfl, hbl, hall⟩ := H4.out (by omega)
      obtain ⟨b', o', rfl, hbl', hall'⟩ := H4'.out (by omega)
      obtain ⟨t, ht⟩ : ∃ t, ts[j]? = some t := ⟨_, List.getElem?_eq_getElem hlt⟩
      obtain ⟨n1, ⟨tk1, tn1, tks1⟩, ⟨bk1, bu1, bn1, ⟨btk1, btn1, btks1⟩, bns1, bks1⟩⟩ := t
      obtain ⟨atks1, ctks1, abtks1, cbtks1, abns1, cbns1, abks1, cbks1, q0, q1, q2, q3, q4, q5, q6, q7, q8, q9, q10, q11, hrk⟩ := hall j n1 tk1 tn1 tks1 bk1 bu1 bn1 btk1 btn1 btks1 bns1 bks1 ht
      obtain ⟨atks2, ctks2, abtks2, cbtks2, abns2, cbns2, abks2, cbks2, p0, p1, p2, p3, p4, p5, p6, p7, p8, p9, p10, p11, hrk'⟩ := hall' j n1 tk1 tn1 tks1 bk1 bu1 bn1 btk1 btn1 btks1 bns1 bks1 ht
      clear hall H4 hall' H4'
      have d0 := cell_regrown ((hb.cell (p := ⟨b, o + j * 12, none⟩) hbl).trans q0)
      have d12 := cell_regrown ((hb.cell (p := ⟨b', o' + j * 12, none⟩) hbl').trans p0)
      have d1 := cell_regrown ((hb.cell (p := ⟨b, o + j * 12 + 1, none⟩) hbl).trans q1)
      have d13 := cell_regrown ((hb.cell (p := ⟨b', o' + j * 12 + 1, none⟩) hbl').trans p1)
      have d2 := cell_regrown ((hb.cell (p := ⟨b, o + j * 12 + 2, none⟩) hbl).trans q2)
      have d14 := cell_regrown ((hb.cell (p := ⟨b', o' + j * 12 + 2, none⟩) hbl').trans p2)
      have d3 := cell_regrown ((hb.cell (p := ⟨b, o + j * 12 + 3, none⟩) hbl).trans q3)
      have d15 := cell_regrown ((hb.cell (p := ⟨b', o' + j * 12 + 3, none⟩) hbl').trans p3)
      have d4 := cell_regrown ((hb.cell (p := ⟨b, o + j * 12 + 4, none⟩) hbl).trans q4)
      have d16 := cell_regrown ((hb.cell (p := ⟨b', o' + j * 12 + 4, none⟩) hbl').trans p4)
      have d5 := cell_regrown ((hb.cell (p := ⟨b, o + j * 12 + 5, none⟩) hbl).trans q5)
      have d17 := cell_regrown ((hb.cell (p := ⟨b', o' + j * 12 + 5, none⟩) hbl').trans p5)
      have d6 := cell_regrown ((hb.cell (p := ⟨b, o + j * 12 + 6, none⟩) hbl).trans q6)
      have d18 := cell_regrown ((hb.cell (p := ⟨b', o' + j * 12 + 6, none⟩) hbl').trans p6)
      have d7 := cell_regrown ((hb.cell (p := ⟨b, o + j * 12 + 7, none⟩) hbl).trans q7)
      have d19 := cell_regrown ((hb.cell (p := ⟨b', o' + j * 12 + 7, none⟩) hbl').trans p7)
      have d8 := cell_regrown ((hb.cell (p := ⟨b, o + j * 12 + 8, none⟩) hbl).trans q8)
      have d20 := cell_regrown ((hb.cell (p := ⟨b', o' + j * 12 + 8, none⟩) hbl').trans p8)
      have d9 := cell_regrown ((hb.cell (p := ⟨b, o + j * 12 + 9, none⟩) hbl).trans q9)
      have d21 := cell_regrown ((hb.cell (p := ⟨b', o' + j * 12 + 9, none⟩) hbl').trans p9)
      have d10 := cell_regrown ((hb.cell (p := ⟨b, o + j * 12 + 10, none⟩) hbl).trans q10)
      have d22 := cell_regrown ((hb.cell (p := ⟨b', o' + j * 12 + 10, none⟩) hbl').trans p10)
      have d11 := cell_regrown ((hb.cell (p := ⟨b, o + j * 12 + 11, none⟩) hbl).trans q11)
      have d23 := cell_regrown ((hb.cell (p := ⟨b', o' + j * 12 + 11, none⟩) hbl').trans p11)
      have hbg := Df.bulk_get ts j _ ht
      have hc := fun d os => Calls.regrown_of (eqDf n1 tk1 tn1 tks1 bk1 bu1 bn1 btk1 btn1 btks1 bns1 bks1 atks1 ctks1 abtks1 cbtks1 abns1 cbns1 abks1 cbks1 atks2 ctks2 abtks2 cbtks2 abns2 cbns2 abks2 cbks2 (grow (redrawn wr d) os) ((hrk.below hb).below (below_regrown wr d os)) ((hrk'.below hb).below (below_regrown wr d os)))
      have HC := hid hc
      clear ht hrk hrk' q0 q1 q2 q3 q4 q5 q6 q7 q8 q9 q10 q11 p0 p1 p2 p3 p4 p5 p6 p7 p8 p9 p10 p11 hc
      go_wp2_with fail
      refine wp_region_quiet_below (by kernel_rfl) (by kernel_rfl) ?_
      repeat (quiet_step (exact HC.out _ _))
      refine wpQuiet_nil ?_
      intro _ hw'
      obtain ⟨⟨dq, osq⟩, hw''⟩ := hw'
      subst hw''
      have hbq := hb.trans ((below_regrown wr dq osq).mono hb.size)
      clear HC d0 d1 d2 d3 d4 d5 d6 d7 d8 d9 d10 d11 d12 d13 d14 d15 d16 d17 d18 d19 d20 d21 d22 d23
      go_wp2_with fail
      go_roundw
      case rel => exact ⟨j + 1, by omega, by go_num, hbq⟩
      case measure => simp [intOf]; omega
    · go_wp2_with fail
      go_ret
      exact ⟨rfl, hb⟩

end Go.Proofs.YtikhofcjkcbpbaaGreatDoor
/- was: EqPg -/
namespace Go.Proofs.YtikhofcjkcbpbaaGreatDoor
open Go.ChangeShapes Go.WideShapes Go.ChangeAt Go.RowKit
open Go.Sort (grow)
set_option linter.unusedVariables false

abbrev EqPg : Prop := ∀ (ds : List Dat) (fs : List Df) (ads : Option Addr) (cds : Nat) (afs : Option Addr) (cfs : Nat) (ads' : Option Addr) (cds' : Nat) (afs' : Option Addr) (cfs' : Nat) (w : World), RdS w (Pg.d (Pg.mk ds fs)) [.slice ads ds.length cds, .slice afs fs.length cfs] → RdS w (Pg.d (Pg.mk ds fs)) [.slice ads' ds.length cds', .slice afs' fs.length cfs'] →
  Calls Tryz.prog 14 #[.agg #[.slice ads ds.length cds, .slice afs fs.length cfs], .agg #[.slice ads' ds.length cds', .slice afs' fs.length cfs']] w fun e w' => e = .returned (.bool true) ∧ Below w.heap.size w w'
theorem eqPg : EqPg := by
  intro ds fs ads cds afs cfs ads' cds' afs' cfs' w hr hr'
  have hbk : Pg.bulk (Pg.mk ds fs) = Dat.bulks ds + Df.bulks fs := rfl
  obtain ⟨hds, hfs⟩ := hr.fPg
  obtain ⟨hds', hfs'⟩ := hr'.fPg
  have hc1 := fun (W : World) (hb : Below w.heap.size w W) => eqDats ds ads ads' cds cds' W (hds.below hb) (hds'.below hb)
  have hc2 := fun (W : World) (hb : Below w.heap.size w W) => eqDfs fs afs afs' cfs cfs' W (hfs.below hb) (hfs'.below hb)
  have HC1 := hid hc1
  have HC2 := hid hc2
  have HX0 := hid (((Boxes.nil w).alloc #[.slice ads ds.length cds, .slice afs fs.length cfs] 49 (0, 0)).alloc #[.slice ads' ds.length cds', .slice afs' fs.length cfs'] 49 (0, 0))
  have HB0 := hid (((Below.refl w.heap.size w).alloc (Nat.le_refl _) (.cells #[.slice ads ds.length cds, .slice afs fs.length cfs] 49)).alloc (by simp) (.cells #[.slice ads' ds.length cds', .slice afs' fs.length cfs'] 49))
  clear hr hr' hbk hc1 hc2 hds hds' hfs hfs'
  go_enter Tryz.func14, Tryz.ntmps14
  go_wp2_with fail
  refine (HC1.out _ HB0.out).mono ?_
  rintro e w1 ⟨rfl, hb1⟩
  have hbw1 := HB0.out.trans (hb1.mono (by simp; omega))
  have hx1 := HX0.out.below hb1
  have g1_1 := hx1.at 1 1 rfl rfl
  have k1_1 := hx1.at 0 1 rfl rfl
  simp only [World.size_alloc] at k1_1
  have HX1 := hid hx1
  clear hx1 hb1 HC1
  go_wp2_with fail
  refine (HC2.out _ hbw1).mono ?_
  rintro e w2 ⟨rfl, hb2⟩
  have hbw2 := hbw1.trans (hb2.mono (by exact hbw1.size))
  have hx2 := HX1.out.below hb2
  have HX2 := hid hx2
  clear hx2 hb2 HC2
  go_wp2_with fail
  go_ret
  exact ⟨rfl, hbw2⟩

end Go.Proofs.YtikhofcjkcbpbaaGreatDoor
