/- Walks of the laws' helpers: the copy of Type. No condition. -/
import Derived.Test.YtikhofcjkcbpbaaGreatDoorSzTy
import Derived.Test.YtikhofcjkcbpbaaGreatDoorToSc
namespace Go.Proofs.YtikhofcjkcbpbaaGreatDoor
open Go.ChangeShapes Go.WideShapes Go.ChangeAt Go.RowKit
open Go.Sort (grow)
set_option linter.unusedVariables false

/-- Handed back: the call's own copy. -/
def GivesTy (k : Int) (n : ByteArray) (ks : List Ty) (w : World) (e : Ending) (w' : World) : Prop :=
  ∃ (aks : Option Addr) (cks : Nat), e = .returned (.agg #[.int .i64 k, .string n, .slice aks ks.length cks]) ∧ OwnS w' w.heap.size (Ty.d (Ty.mk k n ks)) [.int .i64 k, .string n, .slice aks ks.length cks] ∧ Below w.heap.size w w'
def GivesTys (ts : List Ty) (w : World) (e : Ending) (w' : World) : Prop :=
  ∃ (a : Option Addr) (c : Nat), e = .returned (.slice a ts.length c) ∧ OwnL w' w.heap.size (Ty.ds ts) (.slice a ts.length c) ∧ Below w.heap.size w w'
def ToTy (N : Nat) : Prop := ∀ (k : Int) (n : ByteArray) (ks : List Ty) (aks : Option Addr) (cks : Nat) (w : World), Ty.bulk (Ty.mk k n ks) < N → Ty.bulk (Ty.mk k n ks) ≤ 1048576 → RdS w (Ty.d (Ty.mk k n ks)) [.int .i64 k, .string n, .slice aks ks.length cks] →
  Calls Tryz.prog 20 #[.agg #[.int .i64 k, .string n, .slice aks ks.length cks]] w (GivesTy k n ks w)
def ToTys (N : Nat) : Prop := ∀ (ts : List Ty) (a : Option Addr) (c : Nat) (w : World), Ty.bulks ts < N → Ty.bulks ts ≤ 1048576 → RdL w (Ty.ds ts) (.slice a ts.length c) →
  Calls Tryz.prog 48 #[.slice a ts.length c] w (GivesTys ts w)
theorem toTy_step (N : Nat) (ih : ToTys N) : ToTy N := by
  intro k n ks aks cks w hN hM hr
  have hbk : Ty.bulk (Ty.mk k n ks) = n.size + Ty.bulks ks := rfl
  obtain ⟨⟨lok, hik⟩, zn, hks⟩ := hr.fTy
  have hc1 := fun (W : World) (hb : Below w.heap.size w W) => ih ks aks cks W (by omega) (by omega) (hks.below hb)
  have HC1 := hid hc1
  have hB0 : Below w.heap.size w (w.alloc (.cells #[.int .i64 k, .string n, .slice aks ks.length cks] 24)) := (Below.refl _ _).alloc (Nat.le_refl _) _
  clear hr hbk hM hc1 hB0 ih hN hks
  go_enter Tryz.func20, Tryz.ntmps20
  go_wp2_with fail
  refine (HC1.out _ ((((Below.refl _ _).alloc (Nat.le_refl _) _).alloc (by simp) _).alloc (by simp; omega) _)).mono ?_
  rintro e w1 ⟨aks_1, cks_1, rfl, ho1, hb1⟩
  obtain ⟨hcl1, hfz1⟩ := bcell hb1
  have hz1 : w.heap.size + 1 + 1 < w1.heap.size := by have := hb1.size; simp at this; omega
  have hbw1 : Below w.heap.size w w1 := ((((Below.refl _ _).alloc (Nat.le_refl _) _).alloc (by simp) _).alloc (by simp; omega) _).trans (hb1.mono (by simp; omega))
  have HO1 := hid (ho1.mono (base' := w.heap.size + 3) (by simp))
  have HT1 := hid (Nat.le_refl w1.heap.size)
  clear HC1 ho1
  go_wp2_with fail
  refine bodyPost_ret (v := .agg #[.int .i64 k, .string n, .slice aks_1 ks.length cks_1]) (by simp [results, Tryz.results20, go_sem, hcl1]) rfl ⟨aks_1, cks_1, rfl, ?_, ?_⟩
  · have hfin := (((((Keeps.refl (w.heap.size + 3) w1).setCell (p := ⟨w.heap.size + 1 + 1, 2, none⟩) (by simp) (.slice aks_1 ks.length cks_1)).setCell (p := ⟨w.heap.size + 1, 0, none⟩) (by simp) (.int .i64 k)).setCell (p := ⟨w.heap.size + 1, 1, none⟩) (by simp) (.string n)).setCell (p := ⟨w.heap.size + 1, 2, none⟩) (by simp) (.slice aks_1 ks.length cks_1))
    have hp := (((PartAll.cons (HO1.out.part.keeps hfin (by first | exact Nat.le_refl _ | omega) (Nat.le_refl _)) (PartAll.nil _ w1.heap.size w1.heap.size) (Nat.le_refl _) (by omega) (by omega)).plain (Rd.str_mk zn)).plain (Rd.int_mk lok hik))
    exact OwnS.mono (base := w.heap.size + 3) hp.own (by omega)
  · exact ((((hbw1.setCell (by simp; try omega) _).setCell (by simp; try omega) _).setCell (by simp; try omega) _).setCell (by simp; try omega) _)

theorem infoTy : (Tryz.prog.info? 33).map (fun i => (i.zero, i.size, i.bytes)) = some (some (.agg #[.int .i64 0, .string ⟨#[]⟩, .slice none 0 0]), 3, 48) := by kernel_rfl
theorem makeTy (n : Nat) (hn : n ≤ 1048576) : ∃ C : Array Value, C.size = n * 3 ∧ ∀ w : World, (Instr.makeSlice 31 (.int .i64 (n : Int)) (.int .i64 (n : Int))).run Tryz.prog w = .ok (.slice (some ⟨w.heap.size, 0, none⟩) n n) (w.alloc (.cells C 33)) := by
  obtain ⟨i, hi, hz, hs, hb⟩ := info_parts infoTy
  refine ⟨madeCells (Value.cells (.agg #[.int .i64 0, .string ⟨#[]⟩, .slice none 0 0])) (n * 3), size_madeCells _ _, fun w => ?_⟩
  have := run_make (P := Tryz.prog) w 31 33 i _ Tryz.underlying31 hi hz .i64 .i64 n n (by omega) (Int.le_refl _) (by rw [hb]; omega) (by omega)
  simp only [Int.toNat_natCast, hs] at this
  exact this
theorem toTys_step (N : Nat) (ih : ToTy N) : ToTys (N + 1) := by
  intro ts a c w hN hM hr
  obtain ⟨_, _, e, h2, h3, h4⟩ := hr.eTy
  simp only [Value.slice.injEq, true_and] at e
  obtain ⟨rfl, rfl⟩ := e
  have hl := Ty.bulks_length ts
  obtain ⟨C, hC, hmk⟩ := makeTy ts.length (by omega)
  have HC := hid hC
  have H4 := hid h4
  have IH := hid ih
  clear hr h4 hC ih
  go_enter Tryz.func48, Tryz.ntmps48
  go_wp2_with fail
  clear hmk
  go_loopw [4] (fun i wr => ∃ (j : Nat), j ≤ ts.length ∧ i = .int .i64 j ∧ ∃ (cur : Array Value) (F : List Nat), wr.heap[w.heap.size]? = some (.cells cur 33 (0, 0)) ∧ Hid (cur.size = ts.length * 3) ∧ Hid (RdAll wr (Ty.ds (ts.take j)) (cur.toList.take (j * 3)) F) ∧ Owned wr (w.heap.size + 1) F ∧ Below w.heap.size w wr) (fun i _ => ts.length - (intOf i).toNat)
  case atStart => exact ⟨0, by omega, rfl, C, [], heap_alloc_new _ _, HC.out, by show RdAll _ _ _ _; simpa [Ty.ds] using RdAll.nil, Owned.nil _ _, (Below.refl _ _).alloc (Nat.le_refl _) _⟩
  case round =>
    obtain ⟨j, hj, rfl, cur, F, hcur, HS, HR, HO, hb⟩ := hrel
    by_cases hlt : j < ts.length
    · obtain ⟨b, o, rfl, hbl, hall⟩ := H4.out (by omega)
      obtain ⟨t, ht⟩ : ∃ t, ts[j]? = some t := ⟨_, List.getElem?_eq_getElem hlt⟩
      obtain ⟨k1, n1, ks1⟩ := t
      obtain ⟨aks1, cks1, q0, q1, q2, hrk⟩ := hall j k1 n1 ks1 ht
      clear hall H4
      have d0 := (hb.cell (p := ⟨b, o + j * 3, none⟩) hbl).trans q0
      have d1 := (hb.cell (p := ⟨b, o + j * 3 + 1, none⟩) hbl).trans q1
      have d2 := (hb.cell (p := ⟨b, o + j * 3 + 2, none⟩) hbl).trans q2
      have HT := hid ht
      have hbg := Ty.bulk_get ts j _ ht
      have hfc := hrk.fTy
      have HFC := hid hfc
      have hc := IH.out k1 n1 ks1 aks1 cks1 wr (by omega) (by omega) (hrk.below hb)
      have HC := hid hc
      have HU := hid hcur
      clear ht hrk q0 q1 q2 hc hcur hfc
      go_wp2_with fail
      refine HC.out.mono ?_
      clear HC
      rintro e w1 ⟨aks2, cks2, rfl, hown, hb1⟩
      have hB : w.heap.size < wr.heap.size := (Array.getElem?_eq_some_iff.1 HU.out).1
      have hcur1 : w1.heap[w.heap.size]? = some (.cells cur 33 (0, 0)) := (hb1.block _ hB).trans HU.out
      have hsz : j * 3 + 2 < cur.size := by have := HS.out; omega
      have e0 : w1.cell? ⟨w.heap.size, j * 3, none⟩ = some (cur[j * 3]'(by omega)) := by simp [World.cell?, hcur1]
      have f0 : w1.frozen? ⟨w.heap.size, j * 3, none⟩ = false := by simp [World.frozen?, hcur1]
      have e1 : w1.cell? ⟨w.heap.size, j * 3 + 1, none⟩ = some (cur[j * 3 + 1]'(by omega)) := by simp [World.cell?, hcur1]
      have f1 : w1.frozen? ⟨w.heap.size, j * 3 + 1, none⟩ = false := by simp [World.frozen?, hcur1]
      have e2 : w1.cell? ⟨w.heap.size, j * 3 + 2, none⟩ = some (cur[j * 3 + 2]'(by omega)) := by simp [World.cell?, hcur1]
      have f2 : w1.frozen? ⟨w.heap.size, j * 3 + 2, none⟩ = false := by simp [World.frozen?, hcur1]
      have HCU := hid hcur1
      have HW := hid hown
      clear hcur1 hown
      go_wp2_with fail
      obtain ⟨F3, hr3, ho3⟩ := HW.out
      have hlo3 : ∀ y ∈ F3, wr.heap.size ≤ y := fun y hy => (ho3.2 y hy).1
      have hlo : ∀ x ∈ F, x < wr.heap.size := HO.lt
      obtain ⟨cur', H, g1, g2, g3, g4, g5⟩ := fill_step (m := 3) (base := w.heap.size + 1) HCU.out rfl (by have := HS.out; omega) (HR.out.below hb1) hr3 (HO.keep fun b hb => hb1.block b (hlo b hb)) (ho3.mono (by omega))
        (fun x hx => by have := (HO.2 x hx).1; omega) (fun x hx => by have := hlo3 x hx; omega) (fun x hx y hy => by have := hlo x hx; have := hlo3 y hy; omega)
      have hbw : Below w.heap.size w (setMany w1 w.heap.size (j * 3) [.int .i64 k1, .string n1, .slice aks2 ks1.length cks2]) := Below.setMany _ _ (hb.trans (hb1.mono hb.size)) (Nat.le_refl _)
      have htk : Ty.ds (ts.take (j + 1)) = Ty.ds (ts.take j) ++ [Ty.d (Ty.mk k1 n1 ks1)] := Ty.ds_snoc ts j _ HT.out
      go_roundw
      case rel => exact ⟨j + 1, by omega, by go_num, cur', H, g1, by show _ = _; rw [g2]; exact HS.out, by show RdAll _ _ _ _; rw [htk]; exact g3, g4, hbw⟩
      case measure => simp [intOf]; omega
    · obtain rfl : j = ts.length := by omega
      rw [List.take_length] at HR
      go_wp2_with fail
      go_ret
      obtain ⟨G, q1, q2⟩ := fill_done (m := 3) (base := w.heap.size) hcur HS.out (Ty.ds_length ts) (by omega) HR.out (HO.mono (by omega)) (Nat.le_refl _) (fun x hx => by have := (HO.2 x hx).1; omega)
      exact ⟨_, _, rfl, ⟨G, q1, q2⟩, hb⟩

theorem toTy_all : ∀ M, ToTy M ∧ ToTys M
  | 0 => ⟨fun _ _ _ _ _ _ h => absurd h (by omega), fun _ _ _ _ h => absurd h (by omega)⟩
  | M + 1 => by
    have h := toTy_all M
    have h2 := toTys_step M h.1
    exact ⟨toTy_step (M + 1) h2, h2⟩
theorem toTy (k : Int) (n : ByteArray) (ks : List Ty) (aks : Option Addr) (cks : Nat) (w : World) (hM : Ty.bulk (Ty.mk k n ks) ≤ 1048576) (hr : RdS w (Ty.d (Ty.mk k n ks)) [.int .i64 k, .string n, .slice aks ks.length cks]) :
    Calls Tryz.prog 20 #[.agg #[.int .i64 k, .string n, .slice aks ks.length cks]] w (GivesTy k n ks w) :=
  (toTy_all (Ty.bulk (Ty.mk k n ks) + 1)).1 k n ks aks cks w (by omega) hM hr
theorem toTys (ts : List Ty) (a : Option Addr) (c : Nat) (w : World) (hM : Ty.bulks ts ≤ 1048576) (hr : RdL w (Ty.ds ts) (.slice a ts.length c)) :
    Calls Tryz.prog 48 #[.slice a ts.length c] w (GivesTys ts w) :=
  (toTy_all (Ty.bulks ts + 1)).2 ts a c w (by omega) hM hr

end Go.Proofs.YtikhofcjkcbpbaaGreatDoor
