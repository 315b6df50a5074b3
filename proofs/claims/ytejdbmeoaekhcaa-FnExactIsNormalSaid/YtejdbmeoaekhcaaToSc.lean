/- Walks of the laws' helpers: copies of slices of scalars. No condition. -/
import Derived.Test.YtejdbmeoaekhcaaSc
import Derived.Lib.QuietBelow
namespace Go.Proofs.Ytejdbmeoaekhcaa
open Go.ChangeShapes Go.WideShapes Go.ChangeAt Go.RowKit
open Go.Sort (grow)
set_option linter.unusedVariables false

def GivesIns (ts : List Int) (w : World) (e : Ending) (w' : World) : Prop :=
  ∃ (a : Option Addr) (c : Nat), e = .returned (.slice a ts.length c) ∧ OwnL w' w.heap.size (In.ds ts) (.slice a ts.length c) ∧ Below w.heap.size w w'
theorem infoIn : (Try.prog.info? 2).map (fun i => (i.zero, i.size, i.bytes)) = some (some (.int .i64 0), 1, 8) := by kernel_rfl
theorem makeIn (n : Nat) (hn : n ≤ 1048576) : ∃ C : Array Value, C.size = n * 1 ∧ ∀ w : World, (Instr.makeSlice 25 (.int .i64 (n : Int)) (.int .i64 (n : Int))).run Try.prog w = .ok (.slice (some ⟨w.heap.size, 0, none⟩) n n) (w.alloc (.cells C 2)) := by
  obtain ⟨i, hi, hz, hs, hb⟩ := info_parts infoIn
  refine ⟨madeCells (Value.cells (.int .i64 0)) (n * 1), size_madeCells _ _, fun w => ?_⟩
  have := run_make (P := Try.prog) w 25 2 i _ Try.underlying25 hi hz .i64 .i64 n n (by omega) (Int.le_refl _) (by rw [hb]; omega) (by omega)
  simp only [Int.toNat_natCast, hs] at this
  exact this
theorem toIns (ts : List Int) (a : Option Addr) (c : Nat) (w : World) (hM : In.bulks ts ≤ 1048576) (hr : RdL w (In.ds ts) (.slice a ts.length c)) :
    Calls Try.prog 25 #[.slice a ts.length c] w (GivesIns ts w) := by
  obtain ⟨_, _, e, h2, h3, h4⟩ := hr.eIn
  simp only [Value.slice.injEq, true_and] at e
  obtain ⟨rfl, rfl⟩ := e
  have hl := In.bulks_length ts
  obtain ⟨C, hC, hmk⟩ := makeIn ts.length (by omega)
  have HC := hid hC
  have H4 := hid h4
  clear hr h4 hC
  go_enter Try.func25, Try.ntmps25
  go_wp2_with fail
  clear hmk
  go_loopw [4] (fun i wr => ∃ (j : Nat), j ≤ ts.length ∧ i = .int .i64 j ∧ ∃ (cur : Array Value) (F : List Nat), wr.heap[w.heap.size]? = some (.cells cur 2 (0, 0)) ∧ Hid (cur.size = ts.length * 1) ∧ Hid (RdAll wr (In.ds (ts.take j)) (cur.toList.take (j * 1)) F) ∧ Owned wr (w.heap.size + 1) F ∧ Below w.heap.size w wr) (fun i _ => ts.length - (intOf i).toNat)
  case atStart => exact ⟨0, by omega, rfl, C, [], heap_alloc_new _ _, HC.out, by show RdAll _ _ _ _; simpa [In.ds] using RdAll.nil, Owned.nil _ _, (Below.refl _ _).alloc (Nat.le_refl _) _⟩
  case round =>
    obtain ⟨j, hj, rfl, cur, F, hcur, HS, HR, HO, hb⟩ := hrel
    by_cases hlt : j < ts.length
    · obtain ⟨b, o, rfl, hbl, hall⟩ := H4.out (by omega)
      obtain ⟨t, ht⟩ : ∃ t, ts[j]? = some t := ⟨_, List.getElem?_eq_getElem hlt⟩
      obtain ⟨q0, hfc⟩ := hall j t ht
      clear hall H4
      have d0 := (hb.cell (p := ⟨b, o + j, none⟩) hbl).trans q0
      have HT := hid ht
      have HFC := hid hfc
      have hcur1 := hcur
      have hb1 : Below wr.heap.size wr wr := Below.refl _ _
      clear ht q0 hcur hfc
      have hsz : j < cur.size := by have := HS.out; omega
      have e0 : wr.cell? ⟨w.heap.size, j, none⟩ = some (cur[j]'(by omega)) := by simp [World.cell?, hcur1]
      have f0 : wr.frozen? ⟨w.heap.size, j, none⟩ = false := by simp [World.frozen?, hcur1]
      have HCU := hid hcur1
      clear hcur1
      go_wp2_with fail
      have hr3 : Rd wr (In.d t) [.int .i64 t] [] := Rd.int_mk HFC.out.1 HFC.out.2
      have ho3 : Owned wr wr.heap.size [] := Owned.nil _ _
      have hB : w.heap.size < wr.heap.size := (Array.getElem?_eq_some_iff.1 HCU.out).1
      have hlo3 : ∀ y ∈ ([] : List Nat), wr.heap.size ≤ y := fun y hy => by simp at hy
      have hlo : ∀ x ∈ F, x < wr.heap.size := HO.lt
      obtain ⟨cur', H, g1, g2, g3, g4, g5⟩ := fill_step (m := 1) (base := w.heap.size + 1) HCU.out rfl (by have := HS.out; omega) (HR.out.below hb1) hr3 (HO.keep fun b hb => hb1.block b (hlo b hb)) (ho3.mono (by omega))
        (fun x hx => by have := (HO.2 x hx).1; omega) (fun x hx => by have := hlo3 x hx; omega) (fun x hx y hy => by have := hlo x hx; have := hlo3 y hy; omega)
      have hbw : Below w.heap.size w (setMany wr w.heap.size (j * 1) [.int .i64 t]) := Below.setMany _ _ (hb.trans (hb1.mono hb.size)) (Nat.le_refl _)
      have htk : In.ds (ts.take (j + 1)) = In.ds (ts.take j) ++ [In.d t] := In.ds_snoc ts j _ HT.out
      simp only [Nat.mul_one] at g1 g3 g4 hbw
      go_roundw
      case rel => exact ⟨j + 1, by omega, by go_num, cur', H, g1, by show _ = _; rw [g2]; exact HS.out, by show RdAll _ _ _ _; rw [htk, Nat.mul_one]; exact g3, g4, hbw⟩
      case measure => simp [intOf]; omega
    · obtain rfl : j = ts.length := by omega
      rw [List.take_length] at HR
      go_wp2_with fail
      go_ret
      obtain ⟨G, q1, q2⟩ := fill_done (m := 1) (base := w.heap.size) hcur HS.out (In.ds_length ts) (by omega) HR.out (HO.mono (by omega)) (Nat.le_refl _) (fun x hx => by have := (HO.2 x hx).1; omega)
      exact ⟨_, _, rfl, ⟨G, q1, q2⟩, hb⟩

def GivesSrs (ts : List ByteArray) (w : World) (e : Ending) (w' : World) : Prop :=
  ∃ (a : Option Addr) (c : Nat), e = .returned (.slice a ts.length c) ∧ OwnL w' w.heap.size (Sr.ds ts) (.slice a ts.length c) ∧ Below w.heap.size w w'
theorem infoSr : (Try.prog.info? 9).map (fun i => (i.zero, i.size, i.bytes)) = some (some (.string ⟨#[]⟩), 1, 16) := by kernel_rfl
def GivesBos (ts : List Bool) (w : World) (e : Ending) (w' : World) : Prop :=
  ∃ (a : Option Addr) (c : Nat), e = .returned (.slice a ts.length c) ∧ OwnL w' w.heap.size (Bo.ds ts) (.slice a ts.length c) ∧ Below w.heap.size w w'
theorem infoBo : (Try.prog.info? 4).map (fun i => (i.zero, i.size, i.bytes)) = some (some (.bool false), 1, 1) := by kernel_rfl
end Go.Proofs.Ytejdbmeoaekhcaa
