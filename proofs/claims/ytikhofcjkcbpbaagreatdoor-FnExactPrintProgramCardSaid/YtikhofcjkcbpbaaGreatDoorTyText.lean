/- Walks: the text of a type, of the program and of the reference. -/
import Derived.Test.YtikhofcjkcbpbaaGreatDoorTyOk
import Derived.Test.YtikhofcjkcbpbaaGreatDoorTyShape
import Derived.BigQuiet
namespace Go.Proofs.YtikhofcjkcbpbaaGreatDoor
open Go.ChangeShapes Go.WideShapes Go.ChangeAt Go.RowKit Go.BigFrame
open Go.Sort (grow)
set_option linter.unusedVariables false

def encl (k : Int) (t : ByteArray) : ByteArray := if k = 3 then (⟨#[40]⟩ ++ t) ++ ⟨#[41]⟩ else t
def Ty.kind : Ty → Int | .mk k _ _ => k
def arrow : List (Int × ByteArray) → ByteArray
  | [a, b] => (encl a.1 a.2 ++ ⟨#[32, 45, 62, 32]⟩) ++ b.2
  | _ => ⟨#[]⟩
def banged : List (Int × ByteArray) → ByteArray
  | [a] => ⟨#[33]⟩ ++ encl a.1 a.2
  | _ => ⟨#[]⟩
mutual
def Ty.text : Ty → ByteArray
  | .mk k n ks => if k = 1 then ⟨#[73, 110, 116]⟩ else if k = 3 then arrow (Ty.texts ks) else if k = 4 then banged (Ty.texts ks) else n
def Ty.texts : List Ty → List (Int × ByteArray)
  | [] => []
  | t :: ts => (Ty.kind t, Ty.text t) :: Ty.texts ts
end
def sumSz : List (Int × ByteArray) → Nat
  | [] => 0
  | a :: l => a.2.size + sumSz l
theorem encl_le (k : Int) (t : ByteArray) : (encl k t).size ≤ t.size + 2 := by
  have e1 : (⟨#[40]⟩ : ByteArray).size = 1 := rfl
  have e2 : (⟨#[41]⟩ : ByteArray).size = 1 := rfl
  unfold encl
  split
  · rw [ByteArray.size_append, ByteArray.size_append, e1, e2]; omega
  · omega
theorem arrow_le (l : List (Int × ByteArray)) : (arrow l).size ≤ sumSz l + 8 := by
  have e1 : (⟨#[32, 45, 62, 32]⟩ : ByteArray).size = 4 := rfl
  have e0 : (⟨#[]⟩ : ByteArray).size = 0 := rfl
  unfold arrow
  split
  · rename_i a b
    have := encl_le a.1 a.2
    rw [ByteArray.size_append, ByteArray.size_append, e1]
    simp only [sumSz]; omega
  · rw [e0]; omega
theorem banged_le (l : List (Int × ByteArray)) : (banged l).size ≤ sumSz l + 8 := by
  have e1 : (⟨#[33]⟩ : ByteArray).size = 1 := rfl
  have e0 : (⟨#[]⟩ : ByteArray).size = 0 := rfl
  unfold banged
  split
  · rename_i a
    have := encl_le a.1 a.2
    rw [ByteArray.size_append, e1]
    simp only [sumSz]; omega
  · rw [e0]; omega
mutual
theorem Ty.text_le : ∀ t : Ty, (Ty.text t).size ≤ Ty.bulk t + 8 * Ty.cnt t
  | .mk k n ks => by
    have h := Ty.texts_le ks
    have e1 : (⟨#[73, 110, 116]⟩ : ByteArray).size = 3 := rfl
    have h1 := arrow_le (Ty.texts ks)
    have h2 := banged_le (Ty.texts ks)
    simp only [Ty.text, Ty.bulk, Ty.cnt]
    split
    · rw [e1]; omega
    · split
      · omega
      · split <;> omega
theorem Ty.texts_le : ∀ ts : List Ty, sumSz (Ty.texts ts) ≤ Ty.bulks ts + 8 * Ty.cnts ts
  | [] => by simp [Ty.texts, sumSz]
  | t :: ts => by have := Ty.text_le t; have := Ty.texts_le ts; simp only [Ty.texts, sumSz, Ty.bulks, Ty.cnts]; omega
end
theorem Ty.text_small {t : Ty} (h : Ty.bulk t ≤ 1048576) : (Ty.text t).size ≤ 9437192 := by
  have := Ty.text_le t; have := Ty.cnt_le t; omega
def tyText (t : Ty) : ByteArray := if Ty.ok t then Ty.text t else ⟨#[]⟩

def TextW (f : FuncId) (N : Nat) : Prop := ∀ (k : Int) (n : ByteArray) (ks : List Ty) (aks : Option Addr) (cks : Nat) (w : World), Ty.bulk (.mk k n ks) < N → Ty.bulk (.mk k n ks) ≤ 1048576 → Ty.good (.mk k n ks) = true → RdS w (Ty.d (.mk k n ks)) [.int .i64 k, .string n, .slice aks ks.length cks] →
  Calls Tryz.prog f #[.agg #[.int .i64 k, .string n, .slice aks ks.length cks]] w fun e w' => e = .returned (.string (Ty.text (.mk k n ks))) ∧ Below w.heap.size w w'

theorem spec_closed (N : Nat) (ih : TextW 61 N) (k : Int) (n : ByteArray) (ks : List Ty) (aks : Option Addr) (cks : Nat) (w : World) (hN : Ty.bulk (.mk k n ks) < N) (hM : Ty.bulk (.mk k n ks) ≤ 1048576) (hg : Ty.good (.mk k n ks) = true) (hr : RdS w (Ty.d (.mk k n ks)) [.int .i64 k, .string n, .slice aks ks.length cks]) :
    Calls Tryz.prog 86 #[.agg #[.int .i64 k, .string n, .slice aks ks.length cks]] w fun e w' => e = .returned (.string (encl k (Ty.text (.mk k n ks)))) ∧ Below w.heap.size w w' := by
  have hc := fun W hW => ih k n ks aks cks W hN hM hg (hr.below hW)
  have hz := Ty.text_small hM
  have HB := hid ((Below.refl w.heap.size w).alloc (Nat.le_refl _) (.cells #[.int .i64 k, .string n, .slice aks ks.length cks] 33))
  generalize hx : Ty.text (.mk k n ks) = x at hc hz ⊢
  have HC := hid hc
  clear hc hr hx hg hM hN ih
  by_cases hk : k = 3
  case pos =>
    subst hk
    have e1 : (⟨#[40]⟩ : ByteArray).size = 1 := rfl
    have e2 : ((⟨#[40]⟩ : ByteArray) ++ x).size = 1 + x.size := by rw [ByteArray.size_append, e1]
    have e3 : (⟨#[41]⟩ : ByteArray).size = 1 := rfl
    go_enter Tryz.func86, Tryz.ntmps86
    go_wp2_with fail
    refine (HC.out _ HB.out).mono ?_
    rintro e w1 ⟨rfl, hb⟩
    have HB1 := hid (HB.out.trans (hb.mono HB.out.size))
    clear hb
    go_wp2_with fail
    go_ret
    exact ⟨ret_string (by simp [encl]), HB1.out⟩
  case neg =>
    have hkb : (k == 3) = false := by simp [hk]
    have he : encl k x = x := by simp [encl, hk]
    rw [he]
    clear he hk
    go_enter Tryz.func86, Tryz.ntmps86
    go_wp2_with fail
    refine (HC.out _ HB.out).mono ?_
    rintro e w1 ⟨rfl, hb⟩
    have HB1 := hid (HB.out.trans (hb.mono HB.out.size))
    clear hb
    go_wp2_with fail
    go_ret
    exact ⟨rfl, HB1.out⟩

set_option maxHeartbeats 1000000 in
theorem spec_text_step (N : Nat) (ih : TextW 61 N) : TextW 61 (N + 1) := by
  intro k n ks aks cks w hN hM hg hr
  have hbk : Ty.bulk (.mk k n ks) = n.size + Ty.bulks ks := rfl
  obtain ⟨_, _, e, h2, h3, h4⟩ := hr.fTy.2.2.eTy
  simp only [Value.slice.injEq, true_and] at e
  obtain ⟨rfl, rfl⟩ := e
  have hB : Below w.heap.size w (w.alloc (.cells #[.int .i64 k, .string n, .slice aks ks.length cks] 33)) := (Below.refl w.heap.size w).alloc (Nat.le_refl _) _
  have HX0 := hid ((Boxes.nil w).alloc #[.int .i64 k, .string n, .slice aks ks.length cks] 33 (0, 0))
  have g2 := HX0.out.at 0 2 rfl rfl
  simp only [Ty.good, Bool.and_eq_true] at hg
  obtain ⟨hgs, hok⟩ := hg
  have hcases : k = 1 ∨ k = 2 ∨ (k = 3 ∧ ks.length = 2) ∨ (k = 4 ∧ ks.length = 1) := by
    unfold okNode at hok
    split at hok
    · simp_all
    · split at hok
      · simp_all
      · split at hok
        · simp at hok; simp_all
        · split at hok
          · simp at hok; simp_all
          · cases hok
  clear hr hok HX0
  have hw1 := World.size_alloc w (.cells #[.int .i64 k, .string n, .slice aks ks.length cks] 33)
  rcases hcases with rfl | rfl | ⟨rfl, hl⟩ | ⟨rfl, hl⟩
  · have HB := hid hB
    clear hB g2 h4 ih hw1
    go_enter Tryz.func61, Tryz.ntmps61
    go_wp2_with fail
    go_ret
    exact ⟨ret_string (by simp [Ty.text]), HB.out⟩
  · have HB := hid hB
    clear hB g2 h4 ih hw1
    go_enter Tryz.func61, Tryz.ntmps61
    go_wp2_with fail
    go_ret
    exact ⟨ret_string (by simp [Ty.text]), HB.out⟩
  · obtain ⟨⟨k1, n1, ks1⟩, ⟨k2, n2, ks2⟩, rfl⟩ : ∃ a b, ks = [a, b] := by
      match ks, hl with
      | [a, b], _ => exact ⟨a, b, rfl⟩
    obtain ⟨b, o, rfl, hbl, hall⟩ := h4 (by simp)
    obtain ⟨a1, c1, q0, q1, q2, hr1⟩ := hall 0 k1 n1 ks1 rfl
    obtain ⟨a2, c2, p0, p1, p2, hr2⟩ := hall 1 k2 n2 ks2 rfl
    clear hall h4
    simp only [Ty.goods, Bool.and_eq_true] at hgs
    replace hB : Below w.heap.size w (w.alloc (.cells #[.int .i64 3, .string n, .slice (some ⟨b, o, none⟩) 2 cks] 33)) := hB
    replace g2 : (w.alloc (.cells #[.int .i64 3, .string n, .slice (some ⟨b, o, none⟩) 2 cks] 33)).cell? ⟨w.heap.size, 2, none⟩ = some (.slice (some ⟨b, o, none⟩) 2 cks) := g2
    have hbs : Ty.bulks [.mk k1 n1 ks1, .mk k2 n2 ks2] = 1 + Ty.bulk (.mk k1 n1 ks1) + (1 + Ty.bulk (.mk k2 n2 ks2) + 0) := rfl
    have hz1 := encl_le k1 (Ty.text (.mk k1 n1 ks1))
    have hz1' := Ty.text_small (t := .mk k1 n1 ks1) (by omega)
    have hz2 := Ty.text_small (t := .mk k2 n2 ks2) (by omega)
    have hc1 := fun d os => Calls.regrown_of (spec_closed N ih k1 n1 ks1 a1 c1 (grow (redrawn (w.alloc (.cells #[.int .i64 3, .string n, .slice (some ⟨b, o, none⟩) 2 cks] 33)) d) os) (by omega) (by omega) hgs.1 ((hr1.below hB).below ((below_regrown _ d os).mono (by simp))))
    have hc2 := fun d os => Calls.regrown_of (ih k2 n2 ks2 a2 c2 (grow (redrawn (w.alloc (.cells #[.int .i64 3, .string n, .slice (some ⟨b, o, none⟩) 2 cks] 33)) d) os) (by omega) (by omega) hgs.2.1 ((hr2.below hB).below ((below_regrown _ d os).mono (by simp))))
    have ht : Ty.text (.mk 3 n [.mk k1 n1 ks1, .mk k2 n2 ks2]) = (encl k1 (Ty.text (.mk k1 n1 ks1)) ++ ⟨#[32, 45, 62, 32]⟩) ++ Ty.text (.mk k2 n2 ks2) := by
      simp [Ty.text, Ty.texts, Ty.kind, arrow]
    rw [ht]
    clear ht
    have d0 := cell_regrown ((hB.cell (p := ⟨b, o + 0 * 3, none⟩) hbl).trans q0)
    have d1 := cell_regrown ((hB.cell (p := ⟨b, o + 0 * 3 + 1, none⟩) hbl).trans q1)
    have d2 := cell_regrown ((hB.cell (p := ⟨b, o + 0 * 3 + 2, none⟩) hbl).trans q2)
    have d3 := cell_regrown ((hB.cell (p := ⟨b, o + 1 * 3, none⟩) hbl).trans p0)
    have d4 := cell_regrown ((hB.cell (p := ⟨b, o + 1 * 3 + 1, none⟩) hbl).trans p1)
    have d5 := cell_regrown ((hB.cell (p := ⟨b, o + 1 * 3 + 2, none⟩) hbl).trans p2)
    have d6 := cell_regrown g2
    simp only [Nat.zero_mul, Nat.one_mul, Nat.add_zero, Nat.add_assoc, Nat.reduceAdd] at d0 d1 d2 d3 d4 d5
    generalize hx : encl k1 (Ty.text (.mk k1 n1 ks1)) = x at hc1 hz1 ⊢
    generalize hy : Ty.text (.mk k2 n2 ks2) = y at hc2 hz2 ⊢
    have e1 : (⟨#[32, 45, 62, 32]⟩ : ByteArray).size = 4 := rfl
    have e2 : (x ++ (⟨#[32, 45, 62, 32]⟩ : ByteArray)).size = x.size + 4 := by rw [ByteArray.size_append, e1]
    have hzx : x.size ≤ 9437194 := by omega
    have HC1 := hid hc1
    have HC2 := hid hc2
    have HB := hid hB
    clear hB hc1 hc2 hx hy hr1 hr2 q0 q1 q2 p0 p1 p2 g2 hbk hbs hgs ih hz1 hz1' hN hM
    go_enter Tryz.func61, Tryz.ntmps61
    go_wp2_with fail
    refine wp_region_quiet_below (by kernel_rfl) (by kernel_rfl) ?_
    repeat (go_big_quiet_step (first | exact HC1.out _ _ | exact HC2.out _ _))
    refine wpQuiet_nil ?_
    intro _ hw'
    obtain ⟨⟨dq, osq⟩, hw''⟩ := hw'
    subst hw''
    have HB1 := hid (HB.out.trans ((below_regrown _ dq osq).mono HB.out.size))
    clear d0 d1 d2 d3 d4 d5 d6 HC1 HC2
    go_wp2_with fail
    go_ret
    exact ⟨rfl, HB1.out⟩
  · obtain ⟨⟨k1, n1, ks1⟩, rfl⟩ : ∃ a, ks = [a] := by
      match ks, hl with
      | [a], _ => exact ⟨a, rfl⟩
    obtain ⟨b, o, rfl, hbl, hall⟩ := h4 (by simp)
    obtain ⟨a1, c1, q0, q1, q2, hr1⟩ := hall 0 k1 n1 ks1 rfl
    clear hall h4
    simp only [Ty.goods, Bool.and_eq_true] at hgs
    replace hB : Below w.heap.size w (w.alloc (.cells #[.int .i64 4, .string n, .slice (some ⟨b, o, none⟩) 1 cks] 33)) := hB
    have hbs : Ty.bulks [.mk k1 n1 ks1] = 1 + Ty.bulk (.mk k1 n1 ks1) + 0 := rfl
    have hz1 := encl_le k1 (Ty.text (.mk k1 n1 ks1))
    have hz1' := Ty.text_small (t := .mk k1 n1 ks1) (by omega)
    have hc1 := fun W (hW : Below w.heap.size w W) => spec_closed N ih k1 n1 ks1 a1 c1 W (by omega) (by omega) hgs.1 (hr1.below hW)
    have ht : Ty.text (.mk 4 n [.mk k1 n1 ks1]) = ⟨#[33]⟩ ++ encl k1 (Ty.text (.mk k1 n1 ks1)) := by
      simp [Ty.text, Ty.texts, Ty.kind, banged]
    rw [ht]
    clear ht
    have d0 := (hB.cell (p := ⟨b, o + 0 * 3, none⟩) hbl).trans q0
    have d1 := (hB.cell (p := ⟨b, o + 0 * 3 + 1, none⟩) hbl).trans q1
    have d2 := (hB.cell (p := ⟨b, o + 0 * 3 + 2, none⟩) hbl).trans q2
    simp only [Nat.zero_mul, Nat.add_zero] at d0 d1 d2
    generalize hx : encl k1 (Ty.text (.mk k1 n1 ks1)) = x at hc1 hz1 ⊢
    have e1 : (⟨#[33]⟩ : ByteArray).size = 1 := rfl
    have hzx : x.size ≤ 9437194 := by omega
    have HC1 := hid hc1
    have HB := hid hB
    clear hB hc1 hx hr1 q0 q1 q2 hbk hbs hgs ih hz1 hz1' hN hM
    go_enter Tryz.func61, Tryz.ntmps61
    go_wp2_with fail
    refine (HC1.out _ HB.out).mono ?_
    rintro e w1 ⟨rfl, hb⟩
    have HB1 := hid (HB.out.trans (hb.mono HB.out.size))
    clear hb
    go_wp2_with fail
    go_ret
    exact ⟨rfl, HB1.out⟩

theorem spec_text_all : ∀ N, TextW 61 N
  | 0 => fun _ _ _ _ _ _ h => absurd h (by omega)
  | N + 1 => spec_text_step N (spec_text_all N)

theorem spec_TypeText (k : Int) (n : ByteArray) (ks : List Ty) (aks : Option Addr) (cks : Nat) (w : World) (hM : Ty.bulk (.mk k n ks) ≤ 1048576) (hr : RdS w (Ty.d (.mk k n ks)) [.int .i64 k, .string n, .slice aks ks.length cks]) :
    Calls Tryz.prog 33 #[.agg #[.int .i64 k, .string n, .slice aks ks.length cks]] w fun e w' => e = .returned (.string (tyText (.mk k n ks))) ∧ Below w.heap.size w w' := by
  have hv := fun W hW => spec_ValidType k n ks aks cks W hM (hr.below hW)
  have HX := hid ((Boxes.nil w).alloc #[.int .i64 k, .string n, .slice aks ks.length cks] 33 (0, 0))
  have HB := hid ((Below.refl w.heap.size w).alloc (Nat.le_refl _) (.cells #[.int .i64 k, .string n, .slice aks ks.length cks] 33))
  cases hok : Ty.ok (.mk k n ks)
  · rw [hok] at hv
    have HV := hid hv
    have ht : tyText (.mk k n ks) = ⟨#[]⟩ := by simp [tyText, hok]
    rw [ht]
    clear hr hv ht
    go_enter Tryz.func33, Tryz.ntmps33
    go_wp2_with fail
    refine (HV.out _ HB.out).mono ?_
    rintro e w1 ⟨rfl, hb⟩
    go_wp2_with fail
    go_ret
    exact ⟨rfl, HB.out.trans (hb.mono (by simp))⟩
  · have hg : Ty.good (.mk k n ks) = true := by simp only [Ty.ok, Bool.and_eq_true] at hok; exact hok.1
    have hc := fun W hW => spec_text_all (Ty.bulk (.mk k n ks) + 1) k n ks aks cks W (by omega) hM hg (hr.below hW)
    rw [hok] at hv
    have HV := hid hv
    have HC := hid hc
    have ht : tyText (.mk k n ks) = Ty.text (.mk k n ks) := by simp [tyText, hok]
    rw [ht]
    clear hc hr hv ht hg
    go_enter Tryz.func33, Tryz.ntmps33
    go_wp2_with fail
    refine (HV.out _ HB.out).mono ?_
    rintro e w1 ⟨rfl, hb⟩
    have HB1 := hid (HB.out.trans (hb.mono (by simp)))
    have HX1 := hid (HX.out.below hb)
    have g0 := HX1.out.at 0 0 rfl rfl
    have g1 := HX1.out.at 0 1 rfl rfl
    have g2 := HX1.out.at 0 2 rfl rfl
    clear hb
    go_wp2_with fail
    refine (HC.out _ HB1.out).mono ?_
    rintro e w2 ⟨rfl, hb⟩
    have HB2 := hid (HB1.out.trans (hb.mono HB1.out.size))
    clear hb
    go_wp2_with fail
    go_ret
    exact ⟨rfl, HB2.out⟩

theorem impl_closed (N : Nat) (ih : TextW 37 N) (k : Int) (n : ByteArray) (ks : List Ty) (aks : Option Addr) (cks : Nat) (w : World) (hN : Ty.bulk (.mk k n ks) < N) (hM : Ty.bulk (.mk k n ks) ≤ 1048576) (hg : Ty.good (.mk k n ks) = true) (hr : RdS w (Ty.d (.mk k n ks)) [.int .i64 k, .string n, .slice aks ks.length cks]) :
    Calls Tryz.prog 68 #[.agg #[.int .i64 k, .string n, .slice aks ks.length cks]] w fun e w' => e = .returned (.string (encl k (Ty.text (.mk k n ks)))) ∧ Below w.heap.size w w' := by
  have hc := fun W hW => ih k n ks aks cks W hN hM hg (hr.below hW)
  have hz := Ty.text_small hM
  have HB := hid ((Below.refl w.heap.size w).alloc (Nat.le_refl _) (.cells #[.int .i64 k, .string n, .slice aks ks.length cks] 33))
  generalize hx : Ty.text (.mk k n ks) = x at hc hz ⊢
  have HC := hid hc
  clear hc hr hx hg hM hN ih
  by_cases hk : k = 3
  case pos =>
    subst hk
    have e1 : (⟨#[40]⟩ : ByteArray).size = 1 := rfl
    have e2 : ((⟨#[40]⟩ : ByteArray) ++ x).size = 1 + x.size := by rw [ByteArray.size_append, e1]
    have e3 : (⟨#[41]⟩ : ByteArray).size = 1 := rfl
    go_enter Tryz.func68, Tryz.ntmps68
    go_wp2_with fail
    refine (HC.out _ HB.out).mono ?_
    rintro e w1 ⟨rfl, hb⟩
    have HB1 := hid (HB.out.trans (hb.mono HB.out.size))
    clear hb
    go_wp2_with fail
    go_ret
    exact ⟨ret_string (by simp [encl]), HB1.out⟩
  case neg =>
    have hkb : (k == 3) = false := by simp [hk]
    have he : encl k x = x := by simp [encl, hk]
    rw [he]
    clear he hk
    go_enter Tryz.func68, Tryz.ntmps68
    go_wp2_with fail
    refine (HC.out _ HB.out).mono ?_
    rintro e w1 ⟨rfl, hb⟩
    have HB1 := hid (HB.out.trans (hb.mono HB.out.size))
    clear hb
    go_wp2_with fail
    go_ret
    exact ⟨rfl, HB1.out⟩

set_option maxHeartbeats 1000000 in
theorem impl_text_step (N : Nat) (ih : TextW 37 N) : TextW 37 (N + 1) := by
  intro k n ks aks cks w hN hM hg hr
  have hbk : Ty.bulk (.mk k n ks) = n.size + Ty.bulks ks := rfl
  obtain ⟨_, _, e, h2, h3, h4⟩ := hr.fTy.2.2.eTy
  simp only [Value.slice.injEq, true_and] at e
  obtain ⟨rfl, rfl⟩ := e
  have hB : Below w.heap.size w (w.alloc (.cells #[.int .i64 k, .string n, .slice aks ks.length cks] 33)) := (Below.refl w.heap.size w).alloc (Nat.le_refl _) _
  have HX0 := hid ((Boxes.nil w).alloc #[.int .i64 k, .string n, .slice aks ks.length cks] 33 (0, 0))
  have g2 := HX0.out.at 0 2 rfl rfl
  simp only [Ty.good, Bool.and_eq_true] at hg
  obtain ⟨hgs, hok⟩ := hg
  have hcases : k = 1 ∨ k = 2 ∨ (k = 3 ∧ ks.length = 2) ∨ (k = 4 ∧ ks.length = 1) := by
    unfold okNode at hok
    split at hok
    · simp_all
    · split at hok
      · simp_all
      · split at hok
        · simp at hok; simp_all
        · split at hok
          · simp at hok; simp_all
          · cases hok
  clear hr hok HX0
  have hw1 := World.size_alloc w (.cells #[.int .i64 k, .string n, .slice aks ks.length cks] 33)
  rcases hcases with rfl | rfl | ⟨rfl, hl⟩ | ⟨rfl, hl⟩
  · have HB := hid hB
    clear hB g2 h4 ih hw1
    go_enter Tryz.func37, Tryz.ntmps37
    go_wp2_with fail
    go_ret
    exact ⟨ret_string (by simp [Ty.text]), HB.out⟩
  · have HB := hid hB
    clear hB g2 h4 ih hw1
    go_enter Tryz.func37, Tryz.ntmps37
    go_wp2_with fail
    go_ret
    exact ⟨ret_string (by simp [Ty.text]), HB.out⟩
  · obtain ⟨⟨k1, n1, ks1⟩, ⟨k2, n2, ks2⟩, rfl⟩ : ∃ a b, ks = [a, b] := by
      match ks, hl with
      | [a, b], _ => exact ⟨a, b, rfl⟩
    obtain ⟨b, o, rfl, hbl, hall⟩ := h4 (by simp)
    obtain ⟨a1, c1, q0, q1, q2, hr1⟩ := hall 0 k1 n1 ks1 rfl
    obtain ⟨a2, c2, p0, p1, p2, hr2⟩ := hall 1 k2 n2 ks2 rfl
    clear hall h4
    simp only [Ty.goods, Bool.and_eq_true] at hgs
    replace hB : Below w.heap.size w (w.alloc (.cells #[.int .i64 3, .string n, .slice (some ⟨b, o, none⟩) 2 cks] 33)) := hB
    replace g2 : (w.alloc (.cells #[.int .i64 3, .string n, .slice (some ⟨b, o, none⟩) 2 cks] 33)).cell? ⟨w.heap.size, 2, none⟩ = some (.slice (some ⟨b, o, none⟩) 2 cks) := g2
    have hbs : Ty.bulks [.mk k1 n1 ks1, .mk k2 n2 ks2] = 1 + Ty.bulk (.mk k1 n1 ks1) + (1 + Ty.bulk (.mk k2 n2 ks2) + 0) := rfl
    have hz1 := encl_le k1 (Ty.text (.mk k1 n1 ks1))
    have hz1' := Ty.text_small (t := .mk k1 n1 ks1) (by omega)
    have hz2 := Ty.text_small (t := .mk k2 n2 ks2) (by omega)
    have hc1 := fun d os => Calls.regrown_of (impl_closed N ih k1 n1 ks1 a1 c1 (grow (redrawn (w.alloc (.cells #[.int .i64 3, .string n, .slice (some ⟨b, o, none⟩) 2 cks] 33)) d) os) (by omega) (by omega) hgs.1 ((hr1.below hB).below ((below_regrown _ d os).mono (by simp))))
    have hc2 := fun d os => Calls.regrown_of (ih k2 n2 ks2 a2 c2 (grow (redrawn (w.alloc (.cells #[.int .i64 3, .string n, .slice (some ⟨b, o, none⟩) 2 cks] 33)) d) os) (by omega) (by omega) hgs.2.1 ((hr2.below hB).below ((below_regrown _ d os).mono (by simp))))
    have ht : Ty.text (.mk 3 n [.mk k1 n1 ks1, .mk k2 n2 ks2]) = (encl k1 (Ty.text (.mk k1 n1 ks1)) ++ ⟨#[32, 45, 62, 32]⟩) ++ Ty.text (.mk k2 n2 ks2) := by
      simp [Ty.text, Ty.texts, Ty.kind, arrow]
    rw [ht]
    clear ht
    have d0 := cell_regrown ((hB.cell (p := ⟨b, o + 0 * 3, none⟩) hbl).trans q0)
    have d1 := cell_regrown ((hB.cell (p := ⟨b, o + 0 * 3 + 1, none⟩) hbl).trans q1)
    have d2 := cell_regrown ((hB.cell (p := ⟨b, o + 0 * 3 + 2, none⟩) hbl).trans q2)
    have d3 := cell_regrown ((hB.cell (p := ⟨b, o + 1 * 3, none⟩) hbl).trans p0)
    have d4 := cell_regrown ((hB.cell (p := ⟨b, o + 1 * 3 + 1, none⟩) hbl).trans p1)
    have d5 := cell_regrown ((hB.cell (p := ⟨b, o + 1 * 3 + 2, none⟩) hbl).trans p2)
    have d6 := cell_regrown g2
    simp only [Nat.zero_mul, Nat.one_mul, Nat.add_zero, Nat.add_assoc, Nat.reduceAdd] at d0 d1 d2 d3 d4 d5
    generalize hx : encl k1 (Ty.text (.mk k1 n1 ks1)) = x at hc1 hz1 ⊢
    generalize hy : Ty.text (.mk k2 n2 ks2) = y at hc2 hz2 ⊢
    have e1 : (⟨#[32, 45, 62, 32]⟩ : ByteArray).size = 4 := rfl
    have e2 : (x ++ (⟨#[32, 45, 62, 32]⟩ : ByteArray)).size = x.size + 4 := by rw [ByteArray.size_append, e1]
    have hzx : x.size ≤ 9437194 := by omega
    have HC1 := hid hc1
    have HC2 := hid hc2
    have HB := hid hB
    clear hB hc1 hc2 hx hy hr1 hr2 q0 q1 q2 p0 p1 p2 g2 hbk hbs hgs ih hz1 hz1' hN hM
    go_enter Tryz.func37, Tryz.ntmps37
    go_wp2_with fail
    refine wp_region_quiet_below (by kernel_rfl) (by kernel_rfl) ?_
    repeat (go_big_quiet_step (first | exact HC1.out _ _ | exact HC2.out _ _))
    refine wpQuiet_nil ?_
    intro _ hw'
    obtain ⟨⟨dq, osq⟩, hw''⟩ := hw'
    subst hw''
    have HB1 := hid (HB.out.trans ((below_regrown _ dq osq).mono HB.out.size))
    clear d0 d1 d2 d3 d4 d5 d6 HC1 HC2
    go_wp2_with fail
    go_ret
    exact ⟨rfl, HB1.out⟩
  · obtain ⟨⟨k1, n1, ks1⟩, rfl⟩ : ∃ a, ks = [a] := by
      match ks, hl with
      | [a], _ => exact ⟨a, rfl⟩
    obtain ⟨b, o, rfl, hbl, hall⟩ := h4 (by simp)
    obtain ⟨a1, c1, q0, q1, q2, hr1⟩ := hall 0 k1 n1 ks1 rfl
    clear hall h4
    simp only [Ty.goods, Bool.and_eq_true] at hgs
    replace hB : Below w.heap.size w (w.alloc (.cells #[.int .i64 4, .string n, .slice (some ⟨b, o, none⟩) 1 cks] 33)) := hB
    have hbs : Ty.bulks [.mk k1 n1 ks1] = 1 + Ty.bulk (.mk k1 n1 ks1) + 0 := rfl
    have hz1 := encl_le k1 (Ty.text (.mk k1 n1 ks1))
    have hz1' := Ty.text_small (t := .mk k1 n1 ks1) (by omega)
    have hc1 := fun W (hW : Below w.heap.size w W) => impl_closed N ih k1 n1 ks1 a1 c1 W (by omega) (by omega) hgs.1 (hr1.below hW)
    have ht : Ty.text (.mk 4 n [.mk k1 n1 ks1]) = ⟨#[33]⟩ ++ encl k1 (Ty.text (.mk k1 n1 ks1)) := by
      simp [Ty.text, Ty.texts, Ty.kind, banged]
    rw [ht]
    clear ht
    have d0 := (hB.cell (p := ⟨b, o + 0 * 3, none⟩) hbl).trans q0
    have d1 := (hB.cell (p := ⟨b, o + 0 * 3 + 1, none⟩) hbl).trans q1
    have d2 := (hB.cell (p := ⟨b, o + 0 * 3 + 2, none⟩) hbl).trans q2
    simp only [Nat.zero_mul, Nat.add_zero] at d0 d1 d2
    generalize hx : encl k1 (Ty.text (.mk k1 n1 ks1)) = x at hc1 hz1 ⊢
    have e1 : (⟨#[33]⟩ : ByteArray).size = 1 := rfl
    have hzx : x.size ≤ 9437194 := by omega
    have HC1 := hid hc1
    have HB := hid hB
    clear hB hc1 hx hr1 q0 q1 q2 hbk hbs hgs ih hz1 hz1' hN hM
    go_enter Tryz.func37, Tryz.ntmps37
    go_wp2_with fail
    refine (HC1.out _ HB.out).mono ?_
    rintro e w1 ⟨rfl, hb⟩
    have HB1 := hid (HB.out.trans (hb.mono HB.out.size))
    clear hb
    go_wp2_with fail
    go_ret
    exact ⟨rfl, HB1.out⟩

theorem impl_text_all : ∀ N, TextW 37 N
  | 0 => fun _ _ _ _ _ _ h => absurd h (by omega)
  | N + 1 => impl_text_step N (impl_text_all N)

end Go.Proofs.YtikhofcjkcbpbaaGreatDoor
