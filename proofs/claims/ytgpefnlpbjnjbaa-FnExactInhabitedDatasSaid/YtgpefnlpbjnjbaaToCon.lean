/- Walks of the laws' helpers: the copy of Constructor. No condition. -/
import Derived.Test.YtgpefnlpbjnjbaaSzCon
import Derived.Test.YtgpefnlpbjnjbaaToTy
import Derived.Test.YtgpefnlpbjnjbaaToSc
namespace Go.Proofs.Ytgpefnlpbjnjbaa
open Go.ChangeShapes Go.WideShapes Go.ChangeAt Go.RowKit
open Go.Sort (grow)
set_option linter.unusedVariables false

/-- Handed back: the call's own copy. -/
def GivesCon (n : ByteArray) (fs : List Ty) (w : World) (e : Ending) (w' : World) : Prop :=
  ∃ (afs : Option Addr) (cfs : Nat), e = .returned (.agg #[.string n, .slice afs fs.length cfs]) ∧ OwnS w' w.heap.size (Con.d (Con.mk n fs)) [.string n, .slice afs fs.length cfs] ∧ Below w.heap.size w w'
def GivesCons (ts : List Con) (w : World) (e : Ending) (w' : World) : Prop :=
  ∃ (a : Option Addr) (c : Nat), e = .returned (.slice a ts.length c) ∧ OwnL w' w.heap.size (Con.ds ts) (.slice a ts.length c) ∧ Below w.heap.size w w'
abbrev ToCon : Prop := ∀ (n : ByteArray) (fs : List Ty) (afs : Option Addr) (cfs : Nat) (w : World), Con.bulk (Con.mk n fs) ≤ 1048576 → RdS w (Con.d (Con.mk n fs)) [.string n, .slice afs fs.length cfs] →
  Calls Try.prog 150 #[.agg #[.string n, .slice afs fs.length cfs]] w (GivesCon n fs w)
theorem toCon : ToCon := by
  intro n fs afs cfs w hM hr
  have hbk : Con.bulk (Con.mk n fs) = n.size + Ty.bulks fs := rfl
  obtain ⟨zn, hfs⟩ := hr.fCon
  have hc1 := fun (W : World) (hb : Below w.heap.size w W) => toTys fs afs cfs W (by omega) (hfs.below hb)
  have HC1 := hid hc1
  have hB0 : Below w.heap.size w (w.alloc (.cells #[.string n, .slice afs fs.length cfs] 186)) := (Below.refl _ _).alloc (Nat.le_refl _) _
  clear hr hbk hM hc1 hB0 hfs
  go_enter Try.func150, Try.ntmps150
  go_wp2_with fail
  refine (HC1.out _ ((((Below.refl _ _).alloc (Nat.le_refl _) _).alloc (by simp) _).alloc (by simp; omega) _)).mono ?_
  rintro e w1 ⟨afs_1, cfs_1, rfl, ho1, hb1⟩
  obtain ⟨hcl1, hfz1⟩ := bcell hb1
  have hz1 : w.heap.size + 1 + 1 < w1.heap.size := by have := hb1.size; simp at this; omega
  have hbw1 : Below w.heap.size w w1 := ((((Below.refl _ _).alloc (Nat.le_refl _) _).alloc (by simp) _).alloc (by simp; omega) _).trans (hb1.mono (by simp; omega))
  have HO1 := hid (ho1.mono (base' := w.heap.size + 3) (by simp))
  have HT1 := hid (Nat.le_refl w1.heap.size)
  clear HC1 ho1
  go_wp2_with fail
  refine bodyPost_ret (v := .agg #[.string n, .slice afs_1 fs.length cfs_1]) (by simp [results, Try.results150, go_sem, hcl1]) rfl ⟨afs_1, cfs_1, rfl, ?_, ?_⟩
  · have hfin := ((((Keeps.refl (w.heap.size + 3) w1).setCell (p := ⟨w.heap.size + 1 + 1, 1, none⟩) (by simp) (.slice afs_1 fs.length cfs_1)).setCell (p := ⟨w.heap.size + 1, 0, none⟩) (by simp) (.string n)).setCell (p := ⟨w.heap.size + 1, 1, none⟩) (by simp) (.slice afs_1 fs.length cfs_1))
    have hp := ((PartAll.cons (HO1.out.part.keeps hfin (by first | exact Nat.le_refl _ | omega) (Nat.le_refl _)) (PartAll.nil _ w1.heap.size w1.heap.size) (Nat.le_refl _) (by omega) (by omega)).plain (Rd.str_mk zn))
    exact OwnS.mono (base := w.heap.size + 3) hp.own (by omega)
  · exact (((hbw1.setCell (by simp; try omega) _).setCell (by simp; try omega) _).setCell (by simp; try omega) _)

theorem infoCon : (Try.prog.info? 104).map (fun i => (i.zero, i.size, i.bytes)) = some (some (.agg #[.string ⟨#[]⟩, .slice none 0 0]), 2, 40) := by kernel_rfl
theorem makeCon (n : Nat) (hn : n ≤ 1048576) : ∃ C : Array Value, C.size = n * 2 ∧ ∀ w : World, (Instr.makeSlice 99 (.int .i64 (n : Int)) (.int .i64 (n : Int))).run Try.prog w = .ok (.slice (some ⟨w.heap.size, 0, none⟩) n n) (w.alloc (.cells C 104)) := by
  obtain ⟨i, hi, hz, hs, hb⟩ := info_parts infoCon
  refine ⟨madeCells (Value.cells (.agg #[.string ⟨#[]⟩, .slice none 0 0])) (n * 2), size_madeCells _ _, fun w => ?_⟩
  have := run_make (P := Try.prog) w 99 104 i _ Try.underlying99 hi hz .i64 .i64 n n (by omega) (Int.le_refl _) (by rw [hb]; omega) (by omega)
  simp only [Int.toNat_natCast, hs] at this
  exact this
theorem toCons (ts : List Con) (a : Option Addr) (c : Nat) (w : World) (hM : Con.bulks ts ≤ 1048576) (hr : RdL w (Con.ds ts) (.slice a ts.length c)) :
    Calls Try.prog 112 #[.slice a ts.length c] w (GivesCons ts w) := by
  obtain ⟨_, _, e, h2, h3, h4⟩ := hr.eCon
  simp only [Value.slice.injEq, true_and] at e
  obtain ⟨rfl, rfl⟩ := e
  have hl := Con.bulks_length ts
  obtain ⟨C, hC, hmk⟩ := makeCon ts.length (by omega)
  have HC := hid hC
  have H4 := hid h4
  clear hr h4 hC
  go_enter Try.func112, Try.ntmps112
  go_wp2_with fail
  clear hmk
  go_loopw [4] (fun i wr => ∃ (j : Nat), j ≤ ts.length ∧ i = .int .i64 j ∧ ∃ (cur : Array Value) (F : List Nat), wr.heap[w.heap.size]? = some (.cells cur 104 (0, 0)) ∧ Hid (cur.size = ts.length * 2) ∧ Hid (RdAll wr (Con.ds (ts.take j)) (cur.toList.take (j * 2)) F) ∧ Owned wr (w.heap.size + 1) F ∧ Below w.heap.size w wr) (fun i _ => ts.length - (intOf i).toNat)
  case atStart => exact ⟨0, by omega, rfl, C, [], heap_alloc_new _ _, HC.out, by show RdAll _ _ _ _; simpa [Con.ds] using RdAll.nil, Owned.nil _ _, (Below.refl _ _).alloc (Nat.le_refl _) _⟩
  case round =>
    obtain ⟨j, hj, rfl, cur, F, hcur, HS, HR, HO, hb⟩ := hrel
    by_cases hlt : j < ts.length
    · obtain ⟨b, o, rfl, hbl, hall⟩ := H4.out (by omega)
      obtain ⟨t, ht⟩ : ∃ t, ts[j]? = some t := ⟨_, List.getElem?_eq_getElem hlt⟩
      obtain ⟨n1, fs1⟩ := t
      obtain ⟨afs1, cfs1, q0, q1, hrk⟩ := hall j n1 fs1 ht
      clear hall H4
      have d0 := (hb.cell (p := ⟨b, o + j * 2, none⟩) hbl).trans q0
      have d1 := (hb.cell (p := ⟨b, o + j * 2 + 1, none⟩) hbl).trans q1
      have HT := hid ht
      have hbg := Con.bulk_get ts j _ ht
      have hfc := hrk.fCon
      have HFC := hid hfc
      have hc := toCon n1 fs1 afs1 cfs1 wr (by omega) (hrk.below hb)
      have HC := hid hc
      have HU := hid hcur
      clear ht hrk q0 q1 hc hcur hfc
      go_wp2_with fail
      refine HC.out.mono ?_
      clear HC
      rintro e w1 ⟨afs2, cfs2, rfl, hown, hb1⟩
      have hB : w.heap.size < wr.heap.size := (Array.getElem?_eq_some_iff.1 HU.out).1
      have hcur1 : w1.heap[w.heap.size]? = some (.cells cur 104 (0, 0)) := (hb1.block _ hB).trans HU.out
      have hsz : j * 2 + 1 < cur.size := by have := HS.out; omega
      have e0 : w1.cell? ⟨w.heap.size, j * 2, none⟩ = some (cur[j * 2]'(by omega)) := by simp [World.cell?, hcur1]
      have f0 : w1.frozen? ⟨w.heap.size, j * 2, none⟩ = false := by simp [World.frozen?, hcur1]
      have e1 : w1.cell? ⟨w.heap.size, j * 2 + 1, none⟩ = some (cur[j * 2 + 1]'(by omega)) := by simp [World.cell?, hcur1]
      have f1 : w1.frozen? ⟨w.heap.size, j * 2 + 1, none⟩ = false := by simp [World.frozen?, hcur1]
      have HCU := hid hcur1
      have HW := hid hown
      clear hcur1 hown
      go_wp2_with fail
      obtain ⟨F3, hr3, ho3⟩ := HW.out
      have hlo3 : ∀ y ∈ F3, wr.heap.size ≤ y := fun y hy => (ho3.2 y hy).1
      have hlo : ∀ x ∈ F, x < wr.heap.size := HO.lt
      obtain ⟨cur', H, g1, g2, g3, g4, g5⟩ := fill_step (m := 2) (base := w.heap.size + 1) HCU.out rfl (by have := HS.out; omega) (HR.out.below hb1) hr3 (HO.keep fun b hb => hb1.block b (hlo b hb)) (ho3.mono (by omega))
        (fun x hx => by have := (HO.2 x hx).1; omega) (fun x hx => by have := hlo3 x hx; omega) (fun x hx y hy => by have := hlo x hx; have := hlo3 y hy; omega)
      have hbw : Below w.heap.size w (setMany w1 w.heap.size (j * 2) [.string n1, .slice afs2 fs1.length cfs2]) := Below.setMany _ _ (hb.trans (hb1.mono hb.size)) (Nat.le_refl _)
      have htk : Con.ds (ts.take (j + 1)) = Con.ds (ts.take j) ++ [Con.d (Con.mk n1 fs1)] := Con.ds_snoc ts j _ HT.out
      go_roundw
      case rel => exact ⟨j + 1, by omega, by go_num, cur', H, g1, by show _ = _; rw [g2]; exact HS.out, by show RdAll _ _ _ _; rw [htk]; exact g3, g4, hbw⟩
      case measure => simp [intOf]; omega
    · obtain rfl : j = ts.length := by omega
      rw [List.take_length] at HR
      go_wp2_with fail
      go_ret
      obtain ⟨G, q1, q2⟩ := fill_done (m := 2) (base := w.heap.size) hcur HS.out (Con.ds_length ts) (by omega) HR.out (HO.mono (by omega)) (Nat.le_refl _) (fun x hx => by have := (HO.2 x hx).1; omega)
      exact ⟨_, _, rfl, ⟨G, q1, q2⟩, hb⟩

end Go.Proofs.Ytgpefnlpbjnjbaa
