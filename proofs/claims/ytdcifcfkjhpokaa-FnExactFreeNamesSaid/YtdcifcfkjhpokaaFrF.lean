/- Walks: FreeNames, both. -/
import Derived.Test.YtdcifcfkjhpokaaFrI
import Derived.Test.YtdcifcfkjhpokaaTmFits
namespace Go.Proofs.Ytdcifcfkjhpokaa
open Go.ChangeShapes Go.WideShapes Go.ChangeAt Go.RowKit Go.BigFrame
open Go.Sort (grow)
set_option linter.unusedVariables false

theorem Sr.rdall {w : World} : ∀ (L : List ByteArray), (∀ x ∈ L, x.size ≤ 9223372036854775807) → RdAll w (Sr.ds L) (L.map Value.string) []
  | [], _ => RdAll.nil
  | x :: L, h => by
    have := (RdAll.one (w := w) (Rd.str_mk (h x (by simp)))).append (Sr.rdall L fun y hy => h y (by simp [hy]))
    simpa [Sr.ds, Sr.d] using this
theorem ownsRow.rd_strs {B : Nat} {w' : World} {v : Value} {xs : List ByteArray} (h : w'.ownsRow B 9 1 v xs.length (xs.map Value.string)) (hL : ∀ x ∈ xs, x.size ≤ 9223372036854775807) : OwnL w' B (Sr.ds xs) v := by
  obtain ⟨F, h1, h2⟩ := Rd.of_own h (by rw [Sr.ds_length]) (Sr.rdall xs hL) (Owned.nil w' B) (fun _ _ hx => by simp at hx)
  exact ⟨F, h1, h2⟩
theorem GivesSrs.none {w w' : World} (a : Option Addr) (hb : Below w.heap.size w w') : GivesSrs [] w (.returned (.slice a 0 0)) w' := ⟨a, 0, rfl, ⟨[], Rd.nil_mk (by omega), Owned.nil _ _⟩, hb⟩
theorem GivesSrs.of_now {w w0 w1 w' : World} {v v' : Value} {zs : List ByteArray} (hb : Below w.heap.size w w0) (hg : NNow w0 w1 v zs v' w') (hL : ∀ x ∈ zs, x.size ≤ 9223372036854775807) : GivesSrs zs w (.returned v') w' := by
  have ho := OwnS.mono (ownsRow.rd_strs hg.1 hL) hb.size
  have hbb := hb.trans (hg.2.1.mono hb.size)
  rcases hg.1.2 with ⟨rfl, hn⟩ | ⟨g, cap, cur, rfl, _⟩
  · exact ⟨Option.none, 0, by rw [hn], by rw [hn]; exact ho, hbb⟩
  · exact ⟨some ⟨g, 0, Option.none⟩, cap, rfl, ho, hbb⟩
theorem spec_free (k1 : Int) (u1 : Int) (n1 : ByteArray) (tk1 : Int) (tn1 : ByteArray) (tks1 : List Ty) (ns1 : List ByteArray) (ks1 : List Tm) (atks1 : Option Addr) (ctks1 : Nat) (ans1 : Option Addr) (cns1 : Nat) (aks1 : Option Addr) (cks1 : Nat) (b1 o1 : Nat) (v : Value) (w0 w : World) (hM : Tm.bulk (Tm.mk k1 u1 n1 (Ty.mk tk1 tn1 tks1) ns1 ks1) ≤ 1048576) (hg : Tm.good (Tm.mk k1 u1 n1 (Ty.mk tk1 tn1 tks1) ns1 ks1) = true) (x0 : w0.cell? ⟨b1, o1, none⟩ = some (.int .i64 k1)) (x2 : w0.cell? ⟨b1, o1 + 2, none⟩ = some (.string n1)) (x6 : w0.cell? ⟨b1, o1 + 6, none⟩ = some (.slice ans1 ns1.length cns1)) (x7 : w0.cell? ⟨b1, o1 + 7, none⟩ = some (.slice aks1 ks1.length cks1)) (hr : RdS w0 (Tm.d (Tm.mk k1 u1 n1 (Ty.mk tk1 tn1 tks1) ns1 ks1)) [.int .i64 k1, .int .i64 u1, .string n1, .int .i64 tk1, .string tn1, .slice atks1 tks1.length ctks1, .slice ans1 ns1.length cns1, .slice aks1 ks1.length cks1]) (hb : Below w0.heap.size w0 w) (ho : w.ownsRow w0.heap.size 9 1 v 0 []) :
    Calls Try.prog 63 #[.pointer (some ⟨b1, o1, none⟩), .slice none 0 0, v] w (GivesSrs (Tm.free (Tm.mk k1 u1 n1 (Ty.mk tk1 tn1 tks1) ns1 ks1) [] []) w0) := by
  refine (l03Free_all (Tm.bulk (Tm.mk k1 u1 n1 (Ty.mk tk1 tn1 tks1) ns1 ks1) + 1) w0 k1 u1 n1 tk1 tn1 tks1 ns1 ks1 atks1 ctks1 ans1 cns1 aks1 cks1 b1 o1 [] [] (.slice none 0 0) v w (by omega) hM (by simp; omega) (by simp; omega) hg x0 x2 x6 x7 hr hb (StrsL.nil _) (fun h => by simp at h) ho).mono ?_
  rintro e w2 ⟨v2, rfl, hg2⟩
  exact GivesSrs.of_now (Below.refl _ _) hg2 (free_sz _ hM)
theorem impl_free (k1 : Int) (u1 : Int) (n1 : ByteArray) (tk1 : Int) (tn1 : ByteArray) (tks1 : List Ty) (ns1 : List ByteArray) (ks1 : List Tm) (atks1 : Option Addr) (ctks1 : Nat) (ans1 : Option Addr) (cns1 : Nat) (aks1 : Option Addr) (cks1 : Nat) (w : World) (hM : Tm.bulk (Tm.mk k1 u1 n1 (Ty.mk tk1 tn1 tks1) ns1 ks1) ≤ 1048576) (hg : Tm.good (Tm.mk k1 u1 n1 (Ty.mk tk1 tn1 tks1) ns1 ks1) = true) (hr : RdS w (Tm.d (Tm.mk k1 u1 n1 (Ty.mk tk1 tn1 tks1) ns1 ks1)) [.int .i64 k1, .int .i64 u1, .string n1, .int .i64 tk1, .string tn1, .slice atks1 tks1.length ctks1, .slice ans1 ns1.length cns1, .slice aks1 ks1.length cks1]) :
    Calls Try.prog 64 #[.agg #[.int .i64 k1, .int .i64 u1, .string n1, .int .i64 tk1, .string tn1, .slice atks1 tks1.length ctks1, .slice ans1 ns1.length cns1, .slice aks1 ks1.length cks1]] w (GivesSrs (Tm.free (Tm.mk k1 u1 n1 (Ty.mk tk1 tn1 tks1) ns1 ks1) [] []) w) := by
  have hB := (Below.refl w.heap.size w).alloc (Nat.le_refl _) (.cells #[.int .i64 k1, .int .i64 u1, .string n1, .int .i64 tk1, .string tn1, .slice atks1 tks1.length ctks1, .slice ans1 ns1.length cns1, .slice aks1 ks1.length cks1] 36)
  have hc := addFree_all (Tm.bulk (Tm.mk k1 u1 n1 (Ty.mk tk1 tn1 tks1) ns1 ks1) + 1) (w.alloc (.cells #[.int .i64 k1, .int .i64 u1, .string n1, .int .i64 tk1, .string tn1, .slice atks1 tks1.length ctks1, .slice ans1 ns1.length cns1, .slice aks1 ks1.length cks1] 36)) k1 u1 n1 tk1 tn1 tks1 ns1 ks1 atks1 ctks1 ans1 cns1 aks1 cks1 [] [] (.slice none 0 0) (.slice none 0 0) (w.alloc (.cells #[.int .i64 k1, .int .i64 u1, .string n1, .int .i64 tk1, .string tn1, .slice atks1 tks1.length ctks1, .slice ans1 ns1.length cns1, .slice aks1 ks1.length cks1] 36)) (by omega) hM (by simp; omega) (by simp; omega) hg (hr.below hB) (Below.refl _ _) (StrsL.nil _) (fun h => by simp at h) (World.ownsRow_nil _ _ _ _)
  have HC := hid hc
  have HB := hid hB
  have HSZ := hid (free_sz _ hM)
  clear hc hB hM hg hr
  go_enter Try.func64, Try.ntmps64
  go_wp2_with fail
  refine HC.out.mono ?_
  rintro e w2 ⟨v2, rfl, hg2⟩
  have HP := hid (GivesSrs.of_now HB.out hg2 HSZ.out)
  clear hg2
  go_wp2_with fail
  go_ret
  exact HP.out
theorem spec_FreeNames (k1 : Int) (u1 : Int) (n1 : ByteArray) (tk1 : Int) (tn1 : ByteArray) (tks1 : List Ty) (ns1 : List ByteArray) (ks1 : List Tm) (atks1 : Option Addr) (ctks1 : Nat) (ans1 : Option Addr) (cns1 : Nat) (aks1 : Option Addr) (cks1 : Nat) (w : World) (hM : Tm.bulk (Tm.mk k1 u1 n1 (Ty.mk tk1 tn1 tks1) ns1 ks1) ≤ 1048576) (hr : RdS w (Tm.d (Tm.mk k1 u1 n1 (Ty.mk tk1 tn1 tks1) ns1 ks1)) [.int .i64 k1, .int .i64 u1, .string n1, .int .i64 tk1, .string tn1, .slice atks1 tks1.length ctks1, .slice ans1 ns1.length cns1, .slice aks1 ks1.length cks1]) :
    Calls Try.prog 26 #[.agg #[.int .i64 k1, .int .i64 u1, .string n1, .int .i64 tk1, .string tn1, .slice atks1 tks1.length ctks1, .slice ans1 ns1.length cns1, .slice aks1 ks1.length cks1]] w (GivesSrs (freeN (Tm.mk k1 u1 n1 (Ty.mk tk1 tn1 tks1) ns1 ks1)) w) := by
  have hB := (Below.refl w.heap.size w).alloc (Nat.le_refl _) (.cells #[.int .i64 k1, .int .i64 u1, .string n1, .int .i64 tk1, .string tn1, .slice atks1 tks1.length ctks1, .slice ans1 ns1.length cns1, .slice aks1 ks1.length cks1] 36)
  have HX0 := hid ((Boxes.nil w).alloc #[.int .i64 k1, .int .i64 u1, .string n1, .int .i64 tk1, .string tn1, .slice atks1 tks1.length ctks1, .slice ans1 ns1.length cns1, .slice aks1 ks1.length cks1] 36 (0, 0))
  have hrb := hr.below hB
  have hc := spec_l03Ok k1 u1 n1 tk1 tn1 tks1 ns1 ks1 atks1 ctks1 ans1 cns1 aks1 cks1 w.heap.size 0 (w.alloc (.cells #[.int .i64 k1, .int .i64 u1, .string n1, .int .i64 tk1, .string tn1, .slice atks1 tks1.length ctks1, .slice ans1 ns1.length cns1, .slice aks1 ks1.length cks1] 36)) hM (HX0.out.at 0 0 rfl rfl) (HX0.out.at 0 1 rfl rfl) (HX0.out.at 0 2 rfl rfl) (HX0.out.at 0 3 rfl rfl) (HX0.out.at 0 4 rfl rfl) (HX0.out.at 0 5 rfl rfl) (HX0.out.at 0 6 rfl rfl) (HX0.out.at 0 7 rfl rfl) hrb
  have HB := hid hB
  by_cases hok : Tm.ok (Tm.mk k1 u1 n1 (Ty.mk tk1 tn1 tks1) ns1 ks1) = true
  case neg =>
    have HF := hid (freeN_no ((Bool.not_eq_true _).mp hok))
    rw [(Bool.not_eq_true _).mp hok] at hc
    have HC := hid hc
    clear hc hok hM hr hrb hB HX0
    go_enter Try.func26, Try.ntmps26
    go_wp2_with fail
    refine HC.out.mono ?_
    rintro e w1 ⟨rfl, hb⟩
    have HB1 := hid (HB.out.trans (hb.mono HB.out.size))
    clear hb
    go_wp2_with fail
    go_ret
    rw [HF.out]
    exact GivesSrs.none _ (HB1.out.alloc HB1.out.size _)
  case pos =>
    have HF := hid (freeN_yes hok)
    have hg : Tm.good (Tm.mk k1 u1 n1 (Ty.mk tk1 tn1 tks1) ns1 ks1) = true := by simp only [Tm.ok, Bool.and_eq_true] at hok; exact hok.1
    have HG := hid hg
    rw [hok] at hc
    have HC := hid hc
    have HR := hid hrb
    have HMM := hid hM
    clear hc hok hM hr hrb hB hg
    go_enter Try.func26, Try.ntmps26
    go_wp2_with fail
    refine HC.out.mono ?_
    rintro e w1 ⟨rfl, hb⟩
    have HB1 := hid (HB.out.trans (hb.mono HB.out.size))
    have HX1 := hid (HX0.out.below hb)
    have hs := spec_free k1 u1 n1 tk1 tn1 tks1 ns1 ks1 atks1 ctks1 ans1 cns1 aks1 cks1 w.heap.size 0 (.slice (some ⟨w1.heap.size, 0, none⟩) 0 0) w1 (w1.alloc (.cells #[] 9)) HMM.out HG.out (HX1.out.at 0 0 rfl rfl) (HX1.out.at 0 2 rfl rfl) (HX1.out.at 0 6 rfl rfl) (HX1.out.at 0 7 rfl rfl) (HR.out.below hb) ((Below.refl _ _).alloc (Nat.le_refl _) _) (World.ownsRow_made w1 #[] 0 (Nat.le_refl _) (by simp [maxLen]) rfl)
    have HS := hid hs
    clear hb hs
    go_wp2_with fail
    refine HS.out.mono ?_
    rintro e w2 ⟨a2, c2, rfl, ho2, hb2⟩
    have HP := hid (show GivesSrs (freeN (Tm.mk k1 u1 n1 (Ty.mk tk1 tn1 tks1) ns1 ks1)) w (.returned (.slice a2 (Tm.free (Tm.mk k1 u1 n1 (Ty.mk tk1 tn1 tks1) ns1 ks1) [] []).length c2)) w2 from by rw [HF.out]; exact ⟨a2, c2, rfl, OwnS.mono ho2 HB1.out.size, HB1.out.trans (hb2.mono HB1.out.size)⟩)
    clear ho2 hb2
    go_wp2_with fail
    go_ret
    exact HP.out
theorem impl_FreeNames (k1 : Int) (u1 : Int) (n1 : ByteArray) (tk1 : Int) (tn1 : ByteArray) (tks1 : List Ty) (ns1 : List ByteArray) (ks1 : List Tm) (atks1 : Option Addr) (ctks1 : Nat) (ans1 : Option Addr) (cns1 : Nat) (aks1 : Option Addr) (cks1 : Nat) (w : World) (hM : Tm.bulk (Tm.mk k1 u1 n1 (Ty.mk tk1 tn1 tks1) ns1 ks1) ≤ 1048576) (hr : RdS w (Tm.d (Tm.mk k1 u1 n1 (Ty.mk tk1 tn1 tks1) ns1 ks1)) [.int .i64 k1, .int .i64 u1, .string n1, .int .i64 tk1, .string tn1, .slice atks1 tks1.length ctks1, .slice ans1 ns1.length cns1, .slice aks1 ks1.length cks1]) :
    Calls Try.prog 27 #[.agg #[.int .i64 k1, .int .i64 u1, .string n1, .int .i64 tk1, .string tn1, .slice atks1 tks1.length ctks1, .slice ans1 ns1.length cns1, .slice aks1 ks1.length cks1]] w (GivesSrs (freeN (Tm.mk k1 u1 n1 (Ty.mk tk1 tn1 tks1) ns1 ks1)) w) := by
  have hB := (Below.refl w.heap.size w).alloc (Nat.le_refl _) (.cells #[.int .i64 k1, .int .i64 u1, .string n1, .int .i64 tk1, .string tn1, .slice atks1 tks1.length ctks1, .slice ans1 ns1.length cns1, .slice aks1 ks1.length cks1] 36)
  have HX0 := hid ((Boxes.nil w).alloc #[.int .i64 k1, .int .i64 u1, .string n1, .int .i64 tk1, .string tn1, .slice atks1 tks1.length ctks1, .slice ans1 ns1.length cns1, .slice aks1 ks1.length cks1] 36 (0, 0))
  have hc := impl_ValidTerm k1 u1 n1 tk1 tn1 tks1 ns1 ks1 atks1 ctks1 ans1 cns1 aks1 cks1 (w.alloc (.cells #[.int .i64 k1, .int .i64 u1, .string n1, .int .i64 tk1, .string tn1, .slice atks1 tks1.length ctks1, .slice ans1 ns1.length cns1, .slice aks1 ks1.length cks1] 36)) hM (hr.below hB)
  have HB := hid hB
  by_cases hok : Tm.ok (Tm.mk k1 u1 n1 (Ty.mk tk1 tn1 tks1) ns1 ks1) = true
  case neg =>
    have HF := hid (freeN_no ((Bool.not_eq_true _).mp hok))
    rw [(Bool.not_eq_true _).mp hok] at hc
    have HC := hid hc
    clear hc hok hM hr hB HX0
    go_enter Try.func27, Try.ntmps27
    go_wp2_with fail
    refine HC.out.mono ?_
    rintro e w1 ⟨rfl, hb⟩
    have HB1 := hid (HB.out.trans (hb.mono HB.out.size))
    clear hb
    go_wp2_with fail
    go_ret
    rw [HF.out]
    exact GivesSrs.none _ HB1.out
  case pos =>
    have HF := hid (freeN_yes hok)
    have hg : Tm.good (Tm.mk k1 u1 n1 (Ty.mk tk1 tn1 tks1) ns1 ks1) = true := by simp only [Tm.ok, Bool.and_eq_true] at hok; exact hok.1
    have HG := hid hg
    rw [hok] at hc
    have HC := hid hc
    have HR := hid hr
    have HMM := hid hM
    clear hc hok hM hr hB hg
    go_enter Try.func27, Try.ntmps27
    go_wp2_with fail
    refine HC.out.mono ?_
    rintro e w1 ⟨rfl, hb⟩
    have HB1 := hid (HB.out.trans (hb.mono HB.out.size))
    have HX1 := hid (HX0.out.below hb)
    have y0 := HX1.out.at 0 0 rfl rfl
    have y1 := HX1.out.at 0 1 rfl rfl
    have y2 := HX1.out.at 0 2 rfl rfl
    have y3 := HX1.out.at 0 3 rfl rfl
    have y4 := HX1.out.at 0 4 rfl rfl
    have y5 := HX1.out.at 0 5 rfl rfl
    have y6 := HX1.out.at 0 6 rfl rfl
    have y7 := HX1.out.at 0 7 rfl rfl
    have hs := impl_free k1 u1 n1 tk1 tn1 tks1 ns1 ks1 atks1 ctks1 ans1 cns1 aks1 cks1 w1 HMM.out HG.out (HR.out.below HB1.out)
    have HS := hid hs
    clear hb hs
    go_wp2_with fail
    refine HS.out.mono ?_
    rintro e w2 ⟨a2, c2, rfl, ho2, hb2⟩
    have HP := hid (show GivesSrs (freeN (Tm.mk k1 u1 n1 (Ty.mk tk1 tn1 tks1) ns1 ks1)) w (.returned (.slice a2 (Tm.free (Tm.mk k1 u1 n1 (Ty.mk tk1 tn1 tks1) ns1 ks1) [] []).length c2)) w2 from by rw [HF.out]; exact ⟨a2, c2, rfl, OwnS.mono ho2 HB1.out.size, HB1.out.trans (hb2.mono HB1.out.size)⟩)
    clear ho2 hb2 y0 y1 y2 y3 y4 y5 y6 y7
    go_wp2_with fail
    go_ret
    exact HP.out
end Go.Proofs.Ytdcifcfkjhpokaa
