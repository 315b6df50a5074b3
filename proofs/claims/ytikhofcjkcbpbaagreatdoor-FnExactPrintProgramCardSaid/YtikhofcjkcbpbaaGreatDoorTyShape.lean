/- Walks: the form of a type, in the program. -/
import Derived.Test.YtikhofcjkcbpbaaGreatDoorTyPlain
import Derived.Lib.QuietBelow
namespace Go.Proofs.YtikhofcjkcbpbaaGreatDoor
open Go.ChangeShapes Go.WideShapes Go.ChangeAt Go.RowKit
set_option linter.unusedVariables false

def ShapeW (N : Nat) : Prop := ∀ (k : Int) (n : ByteArray) (ks : List Ty) (aks : Option Addr) (cks : Nat) (w : World), Ty.bulk (.mk k n ks) < N → Ty.bulk (.mk k n ks) ≤ 1048576 → RdS w (Ty.d (.mk k n ks)) [.int .i64 k, .string n, .slice aks ks.length cks] →
  Calls Tryz.prog 95 #[.agg #[.int .i64 k, .string n, .slice aks ks.length cks]] w fun e w' => e = .returned (.tuple #[.int .i64 (shD (.mk k n ks)), .int .i64 (shS (.mk k n ks)), .bool (Ty.good (.mk k n ks))]) ∧ Below w.heap.size w w'

set_option maxHeartbeats 4000000 in
theorem typeShape_step (N : Nat) (ih : ShapeW N) : ShapeW (N + 1) := by
  intro k n ks aks cks w hN hM hr
  have hbk : Ty.bulk (.mk k n ks) = n.size + Ty.bulks ks := rfl
  obtain ⟨hk, hn, hks⟩ := hr.fTy
  obtain ⟨_, _, e, h2, h3, h4⟩ := hks.eTy
  simp only [Value.slice.injEq, true_and] at e
  obtain ⟨rfl, rfl⟩ := e
  have hcl := Ty.cnts_le ks
  have IH := hid ih
  have H4 := hid h4
  have HK := hid hbk
  have HB0 := hid ((Below.refl w.heap.size w).alloc (Nat.le_refl _) (.cells #[.int .i64 k, .string n, .slice aks ks.length cks] 33))
  clear ih hr h4 hks hbk
  go_enter Tryz.func95, Tryz.ntmps95
  go_wp2_with fail
  go_loopw [2, 3, 4, 13] (fun d s g i wr => ∃ (j : Nat), j ≤ ks.length ∧ i = .int .i64 j ∧ g = .bool false ∧ d = .int .i64 (1 + Ty.deps (ks.take j) : Nat) ∧ s = .int .i64 (1 + Ty.cnts (ks.take j) : Nat) ∧ Hid (∀ (i : Nat) t, i < j → ks[i]? = some t → Ty.good t = true) ∧
    Below (w.heap.size + 1) (w.alloc (.cells #[.int .i64 k, .string n, .slice aks ks.length cks] 33)) wr) (fun _ _ _ i _ => ks.length - (intOf i).toNat)
  case atStart => exact ⟨0, by omega, rfl, rfl, by simp [Ty.deps], by simp [Ty.cnts], fun i t hi => absurd hi (by omega), Below.refl _ _⟩
  case round =>
    obtain ⟨j, hj, rfl, rfl, rfl, rfl, HJ, hb0⟩ := hrel
    have hb : Below w.heap.size w wr := HB0.out.trans (hb0.mono (by omega))
    by_cases hlt : j < ks.length
    · obtain ⟨b, o, rfl, hbl, hall⟩ := H4.out (by omega)
      obtain ⟨t, ht⟩ : ∃ t, ks[j]? = some t := ⟨_, List.getElem?_eq_getElem hlt⟩
      obtain ⟨k1, n1, ks1⟩ := t
      obtain ⟨a1, c1, q0, q1, q2, hrk⟩ := hall j k1 n1 ks1 ht
      clear hall H4
      have d0 := (hb.cell (p := ⟨b, o + j * 3, none⟩) hbl).trans q0
      have d1 := (hb.cell (p := ⟨b, o + j * 3 + 1, none⟩) hbl).trans q1
      have d2 := (hb.cell (p := ⟨b, o + j * 3 + 2, none⟩) hbl).trans q2
      have hbg := Ty.bulk_get ks j _ ht
      have hc := fun W hW => IH.out k1 n1 ks1 a1 c1 W (by have := HK.out; omega) (by have := HK.out; omega) ((hrk.below hb).below hW)
      have HT := hid ht
      have hct := Ty.cnts_take ks j _ ht
      have hdt := Ty.deps_take ks j _ ht
      have hle := Ty.cnts_take_le ks (j + 1)
      have hd1 := Ty.deps_le (ks.take j)
      have hd2 := Ty.dep_le (.mk k1 n1 ks1)
      cases hg : Ty.good (.mk k1 n1 ks1)
      · rw [hg] at hc
        have HC := hid hc
        clear ht hrk q0 q1 q2 hc hct hdt
        go_wp2_with fail
        refine (HC.out _ ((Below.refl _ _).alloc (Nat.le_refl _) _)).mono ?_
        rintro e w1 ⟨rfl, hb1⟩
        have hbw : Below w.heap.size w w1 := (hb.alloc hb.size _).trans (hb1.mono (by have := hb.size; simp; omega))
        go_wp2_with fail
        refine bodyPost_ret (v := .tuple #[.int .i64 0, .int .i64 0, .bool false]) (by simp [results, Tryz.results95, go_sem]) rfl ⟨?_, hbw⟩
        have := Ty.goods_no ks j _ HT.out hg
        simp [shD, shS, Ty.good, this]
      · rw [hg, shD_good hg, shS_good hg] at hc
        have HC := hid hc
        have HCT := hid hct
        have HDT := hid hdt
        have hct' : Ty.cnts (ks.take j) + Ty.cnt (.mk k1 n1 ks1) ≤ 1048576 := by have := HK.out; omega
        clear ht hrk q0 q1 q2 hc hct hdt
        go_wp2_with fail
        refine (HC.out _ ((Below.refl _ _).alloc (Nat.le_refl _) _)).mono ?_
        rintro e w1 ⟨rfl, hb1⟩
        have hbw : Below (w.heap.size + 1) (w.alloc (.cells #[.int .i64 k, .string n, .slice (some ⟨b, o, none⟩) ks.length cks] 33)) w1 := (hb0.alloc (by have := hb0.size; simpa using this) _).trans (hb1.mono (by have := hb0.size; simp at this; simp; omega))
        clear hb1 HC
        go_wp2_with fail
        go_roundw
        case rel =>
          refine ⟨j + 1, by omega, by go_num, rfl, congrArg (Value.int .i64) ?_, congrArg (Value.int .i64) ?_, fun i t hi hti => ?_, hbw⟩
          · have := HDT.out; split <;> omega
          · have := HCT.out; omega
          · rcases Nat.lt_succ_iff_lt_or_eq.1 hi with hi | rfl
            · exact HJ.out i t hi hti
            · obtain rfl := Option.some.inj (hti.symm.trans HT.out)
              exact hg
        case measure => simp [intOf]; omega
    · obtain rfl : j = ks.length := by omega
      rw [List.take_length]
      have hgs : Ty.goods ks = true := Ty.goods_yes ks fun i t hti => HJ.out i t (by have := (List.getElem?_eq_some_iff.1 hti).1; omega) hti
      have p0 : wr.cell? ⟨w.heap.size, 0, none⟩ = some (.int .i64 k) := (hb0.cell (p := ⟨w.heap.size, 0, none⟩) (by simp)).trans (by simp)
      have p1 : wr.cell? ⟨w.heap.size, 1, none⟩ = some (.string n) := (hb0.cell (p := ⟨w.heap.size, 1, none⟩) (by simp)).trans (by simp)
      have p2 : wr.cell? ⟨w.heap.size, 2, none⟩ = some (.slice aks ks.length cks) := (hb0.cell (p := ⟨w.heap.size, 2, none⟩) (by simp)).trans (by simp)
      have hfin : ∀ b : Bool, okNode k n ks.length = b → Ending.returned (.tuple #[.int .i64 ((1 + Ty.deps ks : Nat) : Int), .int .i64 ((1 + Ty.cnts ks : Nat) : Int), .bool b]) = .returned (.tuple #[.int .i64 (shD (.mk k n ks)), .int .i64 (shS (.mk k n ks)), .bool (Ty.good (.mk k n ks))]) := fun b hbb => by
        simp [shD, shS, Ty.good, hgs, Ty.dep, Ty.cnt, hbb]
      have HF := hid hfin
      have HG := hid hgs
      clear hfin hgs
      have e0 : n.toList.isEmpty = true ∨ n.toList.isEmpty = false := by cases n.toList.isEmpty <;> simp
      by_cases h1 : k = 1
      · subst h1
        by_cases hl : ks.length = 0
        all_goals
          rcases e0 with he | he
          all_goals
            go_wp2_with fail
            refine bodyPost_ret (v := .tuple #[.int .i64 (1 + Ty.deps ks : Nat), .int .i64 (1 + Ty.cnts ks : Nat), .bool (okNode 1 n ks.length)]) (by simp [results, Tryz.results95, go_sem, okNode, he, hl]; try omega) rfl ⟨HF.out _ rfl, hb⟩
      by_cases h2 : k = 2
      · subst h2
        have hu2 : okNode 2 n ks.length = (isUpperB n && (!(n.toList == [73, 110, 116]) && decide (ks.length = 0))) := rfl
        have HU2 := hid hu2
        clear hu2
        by_cases hl : ks.length = 0
        all_goals
          cases hi : (n.toList == [73, 110, 116])
          all_goals
            cases hup : isUpperB n
            all_goals
              go_wp2_with (go_at_call 88; refine (impl_IsUpper _ _).mono ?_; rintro e w1 ⟨rfl, hb1⟩; have q1 := (hb1.cell (p := ⟨w.heap.size, 1, none⟩) (World.block_lt_of_cell? _ _ p1)).trans p1; have q2 := (hb1.cell (p := ⟨w.heap.size, 2, none⟩) (World.block_lt_of_cell? _ _ p2)).trans p2)
              have hbw : Below w.heap.size w w1 := hb.trans (hb1.mono hb.size)
              refine bodyPost_ret (v := .tuple #[.int .i64 (1 + Ty.deps ks : Nat), .int .i64 (1 + Ty.cnts ks : Nat), .bool (okNode 2 n ks.length)]) (by rw [HU2.out, hi, hup]; simp [results, Tryz.results95, go_sem, hl]; try omega) rfl ⟨HF.out _ rfl, hbw⟩
      by_cases h3 : k = 3
      · subst h3
        by_cases hl : ks.length = 2
        all_goals
          rcases e0 with he | he
          all_goals
            go_wp2_with fail
            refine bodyPost_ret (v := .tuple #[.int .i64 (1 + Ty.deps ks : Nat), .int .i64 (1 + Ty.cnts ks : Nat), .bool (okNode 3 n ks.length)]) (by simp [results, Tryz.results95, go_sem, okNode, he, hl]; try omega) rfl ⟨HF.out _ rfl, hb⟩
      by_cases h4 : k = 4
      · subst h4
        by_cases hl : ks.length = 1
        all_goals
          rcases e0 with he | he
          all_goals
            go_wp2_with fail
            refine bodyPost_ret (v := .tuple #[.int .i64 (1 + Ty.deps ks : Nat), .int .i64 (1 + Ty.cnts ks : Nat), .bool (okNode 4 n ks.length)]) (by simp [results, Tryz.results95, go_sem, okNode, he, hl]; try omega) rfl ⟨HF.out _ rfl, hb⟩
      have g1 : (k == 1) = false := by simp [h1]
      have g2 : (k == 2) = false := by simp [h2]
      have g3 : (k == 3) = false := by simp [h3]
      have g4 : (k == 4) = false := by simp [h4]
      have hok : okNode k n ks.length = false := by simp [okNode, h1, h2, h3, h4]
      have HOK := hid hok
      clear h1 h2 h3 h4 hok
      go_wp2_with fail
      refine bodyPost_ret (v := .tuple #[.int .i64 (1 + Ty.deps ks : Nat), .int .i64 (1 + Ty.cnts ks : Nat), .bool false]) (by simp [results, Tryz.results95, go_sem]) rfl ⟨HF.out _ HOK.out, hb⟩

theorem shape_all : ∀ N, ShapeW N
  | 0 => fun _ _ _ _ _ _ h => absurd h (by omega)
  | N + 1 => typeShape_step N (shape_all N)
theorem impl_typeShape (k : Int) (n : ByteArray) (ks : List Ty) (aks : Option Addr) (cks : Nat) (w : World) (hM : Ty.bulk (.mk k n ks) ≤ 1048576) (hr : RdS w (Ty.d (.mk k n ks)) [.int .i64 k, .string n, .slice aks ks.length cks]) :
    Calls Tryz.prog 95 #[.agg #[.int .i64 k, .string n, .slice aks ks.length cks]] w fun e w' => e = .returned (.tuple #[.int .i64 (shD (.mk k n ks)), .int .i64 (shS (.mk k n ks)), .bool (Ty.good (.mk k n ks))]) ∧ Below w.heap.size w w' :=
  shape_all (Ty.bulk (.mk k n ks) + 1) k n ks aks cks w (by omega) hM hr

theorem shD_le (t : Ty) : 0 ≤ shD t ∧ shD t ≤ t.cnt := by
  obtain ⟨k, n, ks⟩ := t
  have := Ty.dep_le (.mk k n ks)
  by_cases h : Ty.goods ks = true <;> simp [shD, h] <;> omega
theorem shS_le (t : Ty) : 0 ≤ shS t ∧ shS t ≤ t.cnt := by
  obtain ⟨k, n, ks⟩ := t
  by_cases h : Ty.goods ks = true <;> simp [shS, h]
theorem impl_ValidType (k : Int) (n : ByteArray) (ks : List Ty) (aks : Option Addr) (cks : Nat) (w : World) (hM : Ty.bulk (.mk k n ks) ≤ 1048576) (hr : RdS w (Ty.d (.mk k n ks)) [.int .i64 k, .string n, .slice aks ks.length cks]) :
    Calls Tryz.prog 67 #[.agg #[.int .i64 k, .string n, .slice aks ks.length cks]] w fun e w' => e = .returned (.bool (Ty.ok (.mk k n ks))) ∧ Below w.heap.size w w' := by
  have hc := fun W hW => impl_typeShape k n ks aks cks W hM (hr.below hW)
  have HC := hid hc
  have hok : Ty.ok (.mk k n ks) = (Ty.good (.mk k n ks) && (decide (Ty.dep (.mk k n ks) ≤ 6) && decide (Ty.cnt (.mk k n ks) ≤ 16))) := rfl
  have HOK := hid hok
  clear hc hr hok
  cases hg : Ty.good (.mk k n ks)
  · rw [hg] at HC
    go_enter Tryz.func67, Tryz.ntmps67
    go_wp2_with fail
    refine (HC.out _ ((Below.refl _ _).alloc (Nat.le_refl _) _)).mono ?_
    rintro e w1 ⟨rfl, hb⟩
    go_wp2_with fail
    go_ret
    exact ⟨ret_bool (by rw [HOK.out, hg]; rfl), ((Below.refl _ _).alloc (Nat.le_refl _) _).trans (hb.mono (by simp))⟩
  · rw [hg, shD_good hg, shS_good hg] at HC
    by_cases h1 : Ty.dep (.mk k n ks) ≤ 6 <;> by_cases h2 : Ty.cnt (.mk k n ks) ≤ 16
    all_goals
      go_enter Tryz.func67, Tryz.ntmps67
      go_wp2_with fail
      refine (HC.out _ ((Below.refl _ _).alloc (Nat.le_refl _) _)).mono ?_
      rintro e w1 ⟨rfl, hb⟩
      go_wp2_with fail
      go_ret
      exact ⟨ret_bool (by rw [HOK.out, hg]; first | (simp [h1, h2]; done) | (simp [h1, h2]; omega) | omega), ((Below.refl _ _).alloc (Nat.le_refl _) _).trans (hb.mono (by simp))⟩
end Go.Proofs.YtikhofcjkcbpbaaGreatDoor
