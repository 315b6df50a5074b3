/- Walks of SameType, of the program and of the reference. -/
import Derived.Test.YtikhofcjkcbpbaaGreatDoorDTy
import Derived.Test.YtikhofcjkcbpbaaGreatDoorThree
import Derived.Lib.QuietBelow
namespace Go.Proofs.YtikhofcjkcbpbaaGreatDoor
open Go.ChangeShapes Go.WideShapes Go.ChangeAt Go.RowKit
open Go.Sort (grow)

mutual
def Ty.eqb : Ty → Ty → Bool
  | .mk k n ks, .mk k' n' ks' => decide (k = k') && (decide (n = n') && Ty.eqbs ks ks')
def Ty.eqbs : List Ty → List Ty → Bool
  | [], [] => true
  | t :: ts, u :: us => Ty.eqb t u && Ty.eqbs ts us
  | _, _ => false
end
theorem Ty.eqbs_length : ∀ (ts us : List Ty), ts.length ≠ us.length → Ty.eqbs ts us = false
  | [], [], h => absurd rfl h
  | [], _ :: _, _ => rfl
  | _ :: _, [], _ => rfl
  | t :: ts, u :: us, h => by rw [Ty.eqbs, Ty.eqbs_length ts us (by simpa using h)]; simp
theorem Ty.eqbs_no : ∀ (ts us : List Ty) (j : Nat) (t u : Ty), ts[j]? = some t → us[j]? = some u → Ty.eqb t u = false → Ty.eqbs ts us = false
  | [], _, j, t, u, h, _, _ => by simp at h
  | _ :: _, [], j, t, u, _, h, _ => by simp at h
  | t' :: ts, u' :: us, 0, t, u, h, h', e => by simp at h h'; subst h h'; simp [Ty.eqbs, e]
  | t' :: ts, u' :: us, j + 1, t, u, h, h', e => by rw [Ty.eqbs, Ty.eqbs_no ts us j t u (by simpa using h) (by simpa using h') e]; simp
theorem Ty.eqbs_yes : ∀ (ts us : List Ty), ts.length = us.length → (∀ (j : Nat) t u, ts[j]? = some t → us[j]? = some u → Ty.eqb t u = true) → Ty.eqbs ts us = true
  | [], [], _, _ => rfl
  | [], _ :: _, h, _ => by simp at h
  | _ :: _, [], h, _ => by simp at h
  | t :: ts, u :: us, h, e => by
    rw [Ty.eqbs, e 0 t u rfl rfl, Ty.eqbs_yes ts us (by simpa using h) (fun j t u h1 h2 => e (j + 1) t u (by simpa using h1) (by simpa using h2))]
    rfl

def SameTyW (f : FuncId) (N : Nat) : Prop := ∀ (k k' : Int) (n n' : ByteArray) (ks ks' : List Ty) (a a' : Option Addr) (cap cap' : Nat) (w : World), Ty.bulk (.mk k n ks) < N → RdS w (Ty.d (.mk k n ks)) [.int .i64 k, .string n, .slice a ks.length cap] → RdS w (Ty.d (.mk k' n' ks')) [.int .i64 k', .string n', .slice a' ks'.length cap'] →
  Calls Tryz.prog f #[.agg #[.int .i64 k, .string n, .slice a ks.length cap], .agg #[.int .i64 k', .string n', .slice a' ks'.length cap']] w fun e w' => e = .returned (.bool (Ty.eqb (.mk k n ks) (.mk k' n' ks'))) ∧ Below w.heap.size w w'

theorem impl_EqualFuncTy (N : Nat) (ih : SameTyW 125 N) (ks ks' : List Ty) (a a' : Option Addr) (cap cap' : Nat) (w : World) (hN : Ty.bulks ks ≤ N) (hr : RdL w (Ty.ds ks) (.slice a ks.length cap)) (hr' : RdL w (Ty.ds ks') (.slice a' ks'.length cap')) :
    Calls Tryz.prog 138 #[.slice a ks.length cap, .slice a' ks'.length cap', .func (.func 125) #[] #[]] w
      fun e w' => e = .returned (.bool (Ty.eqbs ks ks')) ∧ Below w.heap.size w w' := by
  obtain ⟨_, _, e, h2, h3, h4⟩ := hr.eTy
  simp only [Value.slice.injEq, true_and] at e
  obtain ⟨rfl, rfl⟩ := e
  obtain ⟨_, _, e, h2', h3', h4'⟩ := hr'.eTy
  simp only [Value.slice.injEq, true_and] at e
  obtain ⟨rfl, rfl⟩ := e
  have IH := hid ih
  have H4 := hid h4
  have H4' := hid h4'
  clear ih hr h4 hr' h4'
  by_cases hl : ks.length = ks'.length
  · have hlb : ((ks.length : Int) != (ks'.length : Int)) = false := by simp [hl]
    have HL := hid hl
    clear hl
    go_enter Tryz.func138, Tryz.ntmps138
    go_wp2_with fail
    go_loopw [7, 8, 9, 17] (fun _ _ _ i wr => ∃ (j : Nat), j ≤ ks.length ∧ i = .int .i64 j ∧ Hid (∀ (i : Nat) t u, i < j → ks[i]? = some t → ks'[i]? = some u → Ty.eqb t u = true) ∧ Below w.heap.size w wr) (fun _ _ _ i _ => ks.length - (intOf i).toNat)
    case atStart => exact ⟨0, by omega, rfl, fun i t u hi => absurd hi (by omega), Below.refl _ _⟩
    case round =>
      obtain ⟨j, hj, rfl, HJ, hb⟩ := hrel
      by_cases hlt : j < ks.length
      · have hlt' : j < ks'.length := by have := HL.out; omega
        obtain ⟨b, o, rfl, hbl, hall⟩ := H4.out (by omega)
        obtain ⟨b', o', rfl, hbl', hall'⟩ := H4'.out (by omega)
        obtain ⟨t, ht⟩ : ∃ t, ks[j]? = some t := ⟨_, List.getElem?_eq_getElem hlt⟩
        obtain ⟨t', ht'⟩ : ∃ t, ks'[j]? = some t := ⟨_, List.getElem?_eq_getElem hlt'⟩
        obtain ⟨k, n, kk⟩ := t
        obtain ⟨k', n', kk'⟩ := t'
        obtain ⟨a2, cap2, c0, c1, c2, hrk⟩ := hall j k n kk ht
        obtain ⟨a3, cap3, c3, c4, c5, hrk'⟩ := hall' j k' n' kk' ht'
        clear hall H4 hall' H4'
        have d0 := (hb.cell (p := ⟨b, o + j * 3, none⟩) hbl).trans c0
        have d1 := (hb.cell (p := ⟨b, o + j * 3 + 1, none⟩) hbl).trans c1
        have d2 := (hb.cell (p := ⟨b, o + j * 3 + 2, none⟩) hbl).trans c2
        have d3 := (hb.cell (p := ⟨b', o' + j * 3, none⟩) hbl').trans c3
        have d4 := (hb.cell (p := ⟨b', o' + j * 3 + 1, none⟩) hbl').trans c4
        have d5 := (hb.cell (p := ⟨b', o' + j * 3 + 2, none⟩) hbl').trans c5
        have x1 : b < wr.heap.size := Nat.lt_of_lt_of_le hbl hb.size
        have x2 : b' < wr.heap.size := Nat.lt_of_lt_of_le hbl' hb.size
        have hbg := Ty.bulk_get ks j _ ht
        have hc := fun W hW => IH.out k k' n n' kk kk' a2 a3 cap2 cap3 W (by omega) ((hrk.below hb).below hW) ((hrk'.below hb).below hW)
        have HT := hid ht
        have HT' := hid ht'
        have HC := hid hc
        clear ht hrk hrk' c0 c1 c2 c3 c4 c5 hc ht'
        cases hq : Ty.eqb (.mk k n kk) (.mk k' n' kk')
        · rw [hq] at HC
          go_wp2_with fail
          refine (HC.out _ (((Below.refl _ _).alloc (Nat.le_refl _) _).alloc (by simp) _)).mono ?_
          rintro e w1 ⟨rfl, hb1⟩
          have hbw : Below w.heap.size w w1 := ((hb.alloc hb.size _).alloc (by have := hb.size; simp; omega) _).trans (hb1.mono (by have := hb.size; simp; omega))
          go_wp2_with fail
          go_ret
          exact ⟨ret_bool (Ty.eqbs_no ks ks' j _ _ HT.out HT'.out hq).symm, hbw⟩
        · rw [hq] at HC
          go_wp2_with fail
          refine (HC.out _ (((Below.refl _ _).alloc (Nat.le_refl _) _).alloc (by simp) _)).mono ?_
          rintro e w1 ⟨rfl, hb1⟩
          have hbw : Below w.heap.size w w1 := ((hb.alloc hb.size _).alloc (by have := hb.size; simp; omega) _).trans (hb1.mono (by have := hb.size; simp; omega))
          clear hb1
          go_wp2_with fail
          go_roundw
          case rel =>
            refine ⟨j + 1, by omega, by go_num, fun i t u hi h1 h2 => ?_, hbw⟩
            rcases Nat.lt_succ_iff_lt_or_eq.1 hi with hi | rfl
            · exact HJ.out i t u hi h1 h2
            · obtain rfl := Option.some.inj (h1.symm.trans HT.out)
              obtain rfl := Option.some.inj (h2.symm.trans HT'.out)
              exact hq
          case measure => simp [intOf]; omega
      · go_wp2_with fail
        go_ret
        exact ⟨ret_bool (Ty.eqbs_yes ks ks' HL.out (fun i t u h1 h2 => HJ.out i t u (by have := (List.getElem?_eq_some_iff.1 h1).1; omega) h1 h2)).symm, hb⟩
  · have hlb : ((ks.length : Int) != (ks'.length : Int)) = true := by simp; omega
    rw [Ty.eqbs_length ks ks' hl]
    clear hl
    go_enter Tryz.func138, Tryz.ntmps138
    go_wp2_with fail
    go_ret
    exact ⟨rfl, Below.refl _ _⟩

theorem impl_SameType_step (N : Nat) (ih : SameTyW 125 N) : SameTyW 125 (N + 1) := by
  intro k k' n n' ks ks' a a' cap cap' w hN hr hr'
  have hbk : Ty.bulk (.mk k n ks) = n.size + Ty.bulks ks := rfl
  have he : Ty.eqb (.mk k n ks) (.mk k' n' ks') = (decide (k = k') && (decide (n = n') && Ty.eqbs ks ks')) := rfl
  have hc := fun W hW => impl_EqualFuncTy N ih ks ks' a a' cap cap' W (by omega) (hr.fTy.2.2.below hW) (hr'.fTy.2.2.below hW)
  have HC := hid hc
  rw [he]
  clear ih hr hr' hc hbk he
  by_cases hk : k = k'
  · have hkb : (k == k') = true := by simp [hk]
    by_cases hn : n = n'
    · have hnb := bytes_eq hn
      have e : (decide (k = k') && (decide (n = n') && Ty.eqbs ks ks')) = Ty.eqbs ks ks' := by simp [hk, hn]
      rw [e]
      clear e hk hn
      go_enter Tryz.func125, Tryz.ntmps125
      go_wp2_with fail
      refine (HC.out _ (((Below.refl _ _).alloc (Nat.le_refl _) _).alloc (by simp) _)).mono ?_
      rintro e w1 ⟨rfl, hb1⟩
      have hbw : Below w.heap.size w w1 := (((Below.refl _ _).alloc (Nat.le_refl _) _).alloc (by simp) _).trans (hb1.mono (by simp; omega))
      clear hb1
      go_wp2_with fail
      go_ret
      exact ⟨rfl, hbw⟩
    · have hnb := bytes_ne hn
      have e : (decide (k = k') && (decide (n = n') && Ty.eqbs ks ks')) = false := by simp [hn]
      rw [e]
      clear e hk hn HC
      go_enter Tryz.func125, Tryz.ntmps125
      go_wp2_with fail
      go_ret
      exact ⟨rfl, ((Below.refl _ _).alloc (Nat.le_refl _) _).alloc (by simp) _⟩
  · have hkb : (k == k') = false := by simp [hk]
    have e : (decide (k = k') && (decide (n = n') && Ty.eqbs ks ks')) = false := by simp [hk]
    rw [e]
    clear e hk HC
    go_enter Tryz.func125, Tryz.ntmps125
    go_wp2_with fail
    go_ret
    exact ⟨rfl, ((Below.refl _ _).alloc (Nat.le_refl _) _).alloc (by simp) _⟩

theorem impl_sameTy_all : ∀ N, SameTyW 125 N
  | 0 => fun _ _ _ _ _ _ _ _ _ _ _ h => absurd h (by omega)
  | N + 1 => impl_SameType_step N (impl_sameTy_all N)
theorem impl_SameType (k k' : Int) (n n' : ByteArray) (ks ks' : List Ty) (a a' : Option Addr) (cap cap' : Nat) (w : World) (hr : RdS w (Ty.d (.mk k n ks)) [.int .i64 k, .string n, .slice a ks.length cap]) (hr' : RdS w (Ty.d (.mk k' n' ks')) [.int .i64 k', .string n', .slice a' ks'.length cap']) :
    Calls Tryz.prog 125 #[.agg #[.int .i64 k, .string n, .slice a ks.length cap], .agg #[.int .i64 k', .string n', .slice a' ks'.length cap']] w fun e w' => e = .returned (.bool (Ty.eqb (.mk k n ks) (.mk k' n' ks'))) ∧ Below w.heap.size w w' :=
  impl_sameTy_all (Ty.bulk (.mk k n ks) + 1) k k' n n' ks ks' a a' cap cap' w (by omega) hr hr'

end Go.Proofs.YtikhofcjkcbpbaaGreatDoor
