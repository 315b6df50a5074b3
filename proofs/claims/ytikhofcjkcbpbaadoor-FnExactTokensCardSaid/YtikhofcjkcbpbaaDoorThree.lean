/- Walks of OperatorOf, CodeName, IsKeyword, of the program and of the reference. -/
import Derived.Test.YtikhofcjkcbpbaaDoorFrame
namespace Go.Proofs.YtikhofcjkcbpbaaDoor
open Go.ChangeShapes Go.WideShapes Go.ChangeAt Go.RowKit

/-- A row of strings lies at a place. -/
def StrsAt (w : World) (b o : Nat) (ss : List ByteArray) : Prop := ∀ i t, ss[i]? = some t → w.cell? ⟨b, o + i, none⟩ = some (.string t)

theorem StrsAt.below {B : Nat} {w w' : World} {b o : Nat} {ss : List ByteArray} (h : StrsAt w b o ss) (hb : Below B w w') (hB : b < B) : StrsAt w' b o ss :=
  fun i t hi => (hb.cell (p := ⟨b, o + i, none⟩) hB).trans (h i t hi)

/-- The place of a string in a list, from a place on. -/
def idxFrom (s : ByteArray) : Nat → List ByteArray → Int
  | _, [] => -1
  | k, t :: ts => if t = s then k else idxFrom s (k + 1) ts
theorem idxFrom_none (s : ByteArray) : ∀ (k : Nat) (l : List ByteArray), (∀ (j : Nat) t, l[j]? = some t → t ≠ s) → idxFrom s k l = -1
  | _, [], _ => rfl
  | k, t :: ts, h => by rw [idxFrom, if_neg (h 0 t rfl), idxFrom_none s (k + 1) ts (fun j u hu => h (j + 1) u (by simpa using hu))]
theorem idxFrom_at (s : ByteArray) : ∀ (k i : Nat) (l : List ByteArray), (∀ j t, j < i → l[j]? = some t → t ≠ s) → l[i]? = some s → idxFrom s k l = (k + i : Nat)
  | _, _, [], _, h => by simp at h
  | k, 0, t :: ts, _, h => by simp at h; simp [idxFrom, h]
  | k, i + 1, t :: ts, hj, h => by
    rw [idxFrom, if_neg (hj 0 t (by omega) rfl), idxFrom_at s (k + 1) i ts (fun j u hj' hu => hj (j + 1) u (by omega) (by simpa using hu)) (by simpa using h)]
    congr 1; omega
theorem idxFrom_ge (s : ByteArray) : ∀ (k : Nat) (l : List ByteArray), (0 ≤ idxFrom s k l) ↔ s ∈ l
  | _, [] => by simp [idxFrom]
  | k, t :: ts => by
    rw [idxFrom]
    by_cases h : t = s
    · rw [if_pos h]; simp [h]
    · rw [if_neg h, idxFrom_ge s (k + 1) ts]
      constructor
      · intro m; exact List.mem_cons_of_mem _ m
      · intro m; rcases List.mem_cons.1 m with e | m
        · exact absurd e.symm h
        · exact m

/-- Is a string among these? -/
def hasStr (ss : List ByteArray) (s : ByteArray) : Bool := decide (0 ≤ idxFrom s 0 ss)
theorem hasStr_yes {ss : List ByteArray} {s : ByteArray} {k : Nat} (h : ss[k]? = some s) : hasStr ss s = true := by
  simp only [hasStr, decide_eq_true_eq]
  exact (idxFrom_ge s 0 ss).2 (List.mem_of_getElem? h)
theorem hasStr_no {ss : List ByteArray} {s : ByteArray} (h : ∀ (j : Nat) t, ss[j]? = some t → t ≠ s) : hasStr ss s = false := by
  simp [hasStr, idxFrom_none s 0 ss h]

theorem bytes_yes {s t : ByteArray} (h : (s.toList == t.toList) = true) : s = t := by
  rw [ByteArray.toList_eq, ByteArray.toList_eq] at h
  have := eq_of_beq h
  cases s; cases t
  simp_all
theorem bytes_no {s t : ByteArray} (h : (s.toList == t.toList) = false) : s ≠ t := by
  intro e
  subst e
  simp at h
theorem bytes_eq {s t : ByteArray} (h : s = t) : (s.toList == t.toList) = true := by subst h; simp
theorem bytes_ne {s t : ByteArray} (h : s ≠ t) : (s.toList == t.toList) = false := by
  cases hx : (s.toList == t.toList) with
  | false => rfl
  | true => exact absurd (bytes_yes hx) h

theorem slices_Index (b o cap : Nat) (ss : List ByteArray) (s : ByteArray) (w : World) (hm : ss.length ≤ 4611686018427387904) (h : StrsAt w b o ss) :
    Calls Tryd.prog 110 #[.slice (some ⟨b, o, none⟩) ss.length cap, .string s] w fun e w' => e = .returned (.int .i64 (idxFrom s 0 ss)) ∧ w = w' := by
  go_enter Tryd.func110, Tryd.ntmps110
  go_wp2
  go_loop [5, 8] (fun u i => ∃ k : Nat, k ≤ ss.length ∧ i = .int .i64 k ∧ Hid (∀ (j : Nat) t, j < k → ss[j]? = some t → t ≠ s)) (fun _ i => ss.length - (intOf i).toNat)
  case atStart => exact ⟨0, Nat.zero_le _, rfl, fun j t hj => absurd hj (by omega)⟩
  case round =>
    obtain ⟨k, hk, rfl, HN⟩ := hrel
    have H := hid h
    clear h
    by_cases hlt : k < ss.length
    · obtain ⟨t, ht⟩ : ∃ t, ss[k]? = some t := ⟨_, List.getElem?_eq_getElem hlt⟩
      have hc := H.out k t ht
      have HT := hid ht
      clear ht
      by_cases he : s = t
      · have hb := bytes_eq he
        have HE := hid he
        clear he
        go_wp2
        go_ret
        refine ⟨ret_int ?_, rfl⟩
        rw [idxFrom_at s 0 k ss HN.out (by rw [HT.out, HE.out])]
        simp
      · have hb := bytes_ne he
        have HE := hid he
        clear he
        go_wp2
        go_round
        case rel =>
          refine ⟨k + 1, by omega, by go_num, fun j u hj hu => ?_⟩
          rcases Nat.lt_succ_iff_lt_or_eq.1 hj with hj' | rfl
          · exact HN.out j u hj' hu
          · have e : u = t := Option.some.inj (hu.symm.trans HT.out)
            subst e
            exact fun e => HE.out e.symm
        case measure => simp [intOf]; omega
    · go_wp2
      go_ret
      refine ⟨ret_int ?_, rfl⟩
      rw [idxFrom_none s 0 ss fun j t hj => HN.out j t (by have := (List.getElem?_eq_some_iff.1 hj).1; omega) hj]

theorem slices_Contains (b o cap : Nat) (ss : List ByteArray) (s : ByteArray) (w : World) (hm : ss.length ≤ 4611686018427387904) (h : StrsAt w b o ss) :
    Calls Tryd.prog 90 #[.slice (some ⟨b, o, none⟩) ss.length cap, .string s] w fun e w' => e = .returned (.bool (hasStr ss s)) ∧ w = w' := by
  have H := hid h
  clear h
  go_enter Tryd.func90, Tryd.ntmps90
  go_wp2_with (go_at_call 110; refine (slices_Index _ _ _ _ _ _ hm H.out).mono ?_; rintro e w' ⟨rfl, rfl⟩)
  go_ret
  exact ⟨rfl, rfl⟩

def kws : List ByteArray := [⟨#[100, 97, 116, 97]⟩, ⟨#[100, 101, 102]⟩, ⟨#[108, 101, 116]⟩, ⟨#[105, 110]⟩, ⟨#[109, 97, 116, 99, 104]⟩, ⟨#[105, 102]⟩, ⟨#[116, 104, 101, 110]⟩, ⟨#[101, 108, 115, 101]⟩]
def isKw (s : ByteArray) : Bool := hasStr kws s

theorem impl_IsKeyword (s : ByteArray) (w : World) : Calls Tryd.prog 56 #[.string s] w fun e w' => e = .returned (.bool (isKw s)) ∧ Below w.heap.size w w' := by
  go_enter Tryd.func56, Tryd.ntmps56
  go_wp2_with fail
  refine (slices_Contains w.heap.size 0 8 kws s _ (by decide) ?_).mono ?_
  · intro i t hi
    match i, hi with
    | 0, hi | 1, hi | 2, hi | 3, hi | 4, hi | 5, hi | 6, hi | 7, hi => simp [kws] at hi; subst hi; simp
    | i + 8, hi => simp [kws] at hi
  rintro e w' ⟨rfl, rfl⟩
  go_wp2
  go_ret
  exact ⟨rfl, (Below.refl _ _).alloc (Nat.le_refl _) _⟩

theorem spec_Keywords (w : World) : Calls Tryd.prog 108 #[] w fun e w' => e = .returned (.slice (some ⟨w.heap.size, 0, none⟩) 8 8) ∧ StrsAt w' w.heap.size 0 kws ∧ Below w.heap.size w w' := by
  go_enter Tryd.func108, Tryd.ntmps108
  go_wp2
  go_ret
  refine ⟨rfl, ?_, (Below.refl _ _).alloc (Nat.le_refl _) _⟩
  intro i t hi
  match i, hi with
  | 0, hi | 1, hi | 2, hi | 3, hi | 4, hi | 5, hi | 6, hi | 7, hi => simp [kws] at hi; subst hi; simp
  | i + 8, hi => simp [kws] at hi

theorem spec_IsKeyword (s : ByteArray) (w : World) : Calls Tryd.prog 81 #[.string s] w fun e w' => e = .returned (.bool (isKw s)) ∧ Below w.heap.size w w' := by
  go_enter Tryd.func81, Tryd.ntmps81
  go_wp2_with fail
  go_loopw [3] (fun i wr => ∃ k : Nat, k ≤ 8 ∧ i = .int .i64 k ∧ Below w.heap.size w wr ∧ Hid (∀ (j : Nat) t, j < k → kws[j]? = some t → t ≠ s)) (fun i _ => 8 - (intOf i).toNat)
  case atStart => exact ⟨0, by omega, rfl, Below.refl _ _, fun j t hj => absurd hj (by omega)⟩
  case round =>
    obtain ⟨k, hk, rfl, hb, HN⟩ := hrel
    go_wp2_with fail
    refine (spec_Keywords _).mono ?_
    rintro e w1 ⟨rfl, -, hb1⟩
    by_cases hlt : k < 8
    · go_wp2_with fail
      refine (spec_Keywords _).mono ?_
      rintro e w2 ⟨rfl, hs2, hb2⟩
      obtain ⟨t, ht⟩ : ∃ t, kws[k]? = some t := ⟨_, List.getElem?_eq_getElem hlt⟩
      have hc := hs2 k t ht
      have HT := hid ht
      have HS := hid hs2
      clear ht hs2
      simp only [Nat.zero_add] at hc
      have hb3 : Below w.heap.size w w2 := hb.trans ((hb1.mono hb.size).trans (hb2.mono (Nat.le_trans hb.size hb1.size)))
      by_cases he : t = s
      · have hq := bytes_eq he
        have HE := hid he
        clear he
        go_wp2
        go_ret
        exact ⟨ret_bool (hasStr_yes (HE.out ▸ HT.out)).symm, hb3⟩
      · have hq := bytes_ne he
        have HE := hid he
        clear he
        go_wp2
        go_roundw
        case rel =>
          refine ⟨k + 1, by omega, by go_num, hb3, fun j u hj hu => ?_⟩
          rcases Nat.lt_succ_iff_lt_or_eq.1 hj with hj' | rfl
          · exact HN.out j u hj' hu
          · have e : u = t := Option.some.inj (hu.symm.trans HT.out)
            subst e
            exact HE.out
        case measure => simp [intOf]; omega
    · have hb3 : Below w.heap.size w w1 := hb.trans (hb1.mono hb.size)
      go_wp2
      go_ret
      exact ⟨ret_bool (hasStr_no fun j t hj => HN.out j t (by have := (List.getElem?_eq_some_iff.1 hj).1; simp [kws] at this; omega) hj).symm, hb3⟩
end Go.Proofs.YtikhofcjkcbpbaaDoor
