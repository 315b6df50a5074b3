/- Walks: a list of names that grows across calls; the free names in the reference. -/
import Derived.Test.YtdcifcfkjhpokaaFrP
import Derived.Test.YtdcifcfkjhpokaaNmG
import Derived.Test.YtdcifcfkjhpokaaTmValid
import Derived.Deep.RegionHeld3
namespace Go.Proofs.Ytdcifcfkjhpokaa
open Go.ChangeShapes Go.WideShapes Go.ChangeAt Go.RowKit Go.BigFrame
open Go.Sort (grow)
set_option linter.unusedVariables false

/-- Another block than the list's own. -/
def NotOwn (sc : List ByteArray) (vs v : Value) : Prop := 0 < sc.length → ∀ b, vs.ownBlock = some b → v.ownBlock ≠ some b
/-- The list as it is now. -/
def NNow (w0 w : World) (v : Value) (zs : List ByteArray) (v' : Value) (w' : World) : Prop :=
  w'.ownsRow w0.heap.size 9 1 v' zs.length (zs.map Value.string) ∧ Below w0.heap.size w0 w' ∧ w.grownBy w' v.ownBlock ∧ ∀ g, v'.ownBlock = some g → v.ownBlock = some g ∨ w.heap.size ≤ g
def NPost (w0 w : World) (v : Value) (zs : List ByteArray) (e : Ending) (w' : World) : Prop := ∃ v', e = .returned v' ∧ NNow w0 w v zs v' w'
theorem NNow.refl {w0 w : World} {v : Value} {zs : List ByteArray} (ho : w.ownsRow w0.heap.size 9 1 v zs.length (zs.map Value.string)) (hb : Below w0.heap.size w0 w) : NNow w0 w v zs v w := ⟨ho, hb, ⟨rfl, rfl, rfl, Nat.le_refl _, fun _ _ _ => rfl⟩, fun g h => .inl h⟩
theorem NNow.below {w0 w w1 w2 : World} {v v' : Value} {zs : List ByteArray} (h : NNow w0 w v zs v' w1) (k : Below w1.heap.size w1 w2) : NNow w0 w v zs v' w2 :=
  ⟨ownsRow.below h.1 k, h.2.1.trans (k.mono h.2.1.size), ⟨k.os.trans h.2.2.1.os, k.tape.trans h.2.2.1.tape, k.output.trans h.2.2.1.output, Nat.le_trans h.2.2.1.size k.size, fun x hx hn => (k.block x (Nat.lt_of_lt_of_le hx h.2.2.1.size)).trans (h.2.2.1.block x hx hn)⟩, h.2.2.2⟩
theorem NNow.step {w0 w w1 w2 : World} {v v1 v2 : Value} {zs ys : List ByteArray} (h : NNow w0 w v zs v1 w1) (k : NNow w0 w1 v1 ys v2 w2) : NNow w0 w v ys v2 w2 := by
  refine ⟨k.1, k.2.1, ⟨k.2.2.1.os.trans h.2.2.1.os, k.2.2.1.tape.trans h.2.2.1.tape, k.2.2.1.output.trans h.2.2.1.output, Nat.le_trans h.2.2.1.size k.2.2.1.size, fun x hx hn => ?_⟩, fun g hg => ?_⟩
  · refine (k.2.2.1.block x (Nat.lt_of_lt_of_le hx h.2.2.1.size) fun e => ?_).trans (h.2.2.1.block x hx hn)
    rcases h.2.2.2 x e.symm with e' | e'
    · exact hn e'.symm
    · omega
  · rcases k.2.2.2 g hg with e | e
    · exact h.2.2.2 g e
    · exact .inr (Nat.le_trans h.2.2.1.size e)
theorem NNow.from {w0 w w1 w2 : World} {v v2 : Value} {ys : List ByteArray} (k : NNow w0 w1 v ys v2 w2) (h : Below w.heap.size w w1) : NNow w0 w v ys v2 w2 := by
  refine ⟨k.1, k.2.1, ⟨k.2.2.1.os.trans h.os, k.2.2.1.tape.trans h.tape, k.2.2.1.output.trans h.output, Nat.le_trans h.size k.2.2.1.size, fun x hx hn => ?_⟩, fun g hg => ?_⟩
  · exact (k.2.2.1.block x (Nat.lt_of_lt_of_le hx h.size) hn).trans (h.block x hx)
  · rcases k.2.2.2 g hg with e | e
    · exact .inl e
    · exact .inr (Nat.le_trans h.size e)
theorem NPost.from {w0 w w1 w2 : World} {v : Value} {ys : List ByteArray} {e : Ending} (k : NPost w0 w1 v ys e w2) (h : Below w.heap.size w w1) : NPost w0 w v ys e w2 := by
  obtain ⟨v2, rfl, k⟩ := k; exact ⟨v2, rfl, k.from h⟩
theorem NNow.keep {w0 w w' : World} {v v' : Value} {zs xs : List ByteArray} (h : NNow w0 w v zs v' w') (ho : w.ownsRow w0.heap.size 9 1 v xs.length (xs.map Value.string)) : KeepT 9 w w' := KeepT.of_grown ho h.2.2.1
theorem NNow.scope {w0 w w' : World} {v v' : Value} {zs sc : List ByteArray} {vs : Value} (h : NNow w0 w v zs v' w') (hL : StrsL w sc vs) (hN : NotOwn sc vs v) : StrsL w' sc vs ∧ NotOwn sc vs v' := by
  obtain ⟨a, c, rfl, h2, h3, h4⟩ := hL
  refine ⟨⟨a, c, rfl, h2, h3, fun hp => ?_⟩, fun hp b hb hv => ?_⟩
  · obtain ⟨b, o, rfl, hl, hc⟩ := h4 hp
    refine ⟨b, o, rfl, Nat.lt_of_lt_of_le hl h.2.2.1.size, fun i s hi => ?_⟩
    exact (World.cell?_of_block (a := ⟨b, o + i, none⟩) (h.2.2.1.block b hl fun e => hN hp b rfl e.symm)).trans (hc i s hi)
  · obtain ⟨b', o, rfl, hl, hc⟩ := h4 hp
    simp only [Value.ownBlock, Option.some.injEq] at hb
    subst hb
    rcases h.2.2.2 _ hv with e | e
    · exact hN hp b' rfl e
    · omega
theorem NotOwn.fresh {sc : List ByteArray} {vs v : Value} {w w2 : World} {B : Nat} {xs : List ByteArray} (ho : w.ownsRow B 9 1 v xs.length (xs.map Value.string)) (hs : w2.ownsRow w.heap.size 9 1 vs sc.length (sc.map Value.string)) : NotOwn sc vs v := fun _ b h1 h2 => by
  have h3 := (hs.lt b h1).1
  have h4 := (ho.lt b h2).2
  omega
/-- A new list, taken over: nothing is the call's before. -/
theorem NNow.nil {w0 w : World} (hb : Below w0.heap.size w0 w) : NNow w0 w (.slice none 0 0) [] (.slice none 0 0) w := NNow.refl (World.ownsRow_nil _ _ _ _) hb
theorem NNow.one {w0 w w1 w2 : World} {v v2 : Value} {xs : List ByteArray} {n : ByteArray} (hb : Below w0.heap.size w0 w) (ho : w.ownsRow w0.heap.size 9 1 v xs.length (xs.map Value.string)) (h1 : Below w.heap.size w w1)
    (ho2 : w2.ownsRow w0.heap.size 9 1 v2 (xs ++ [n]).length ((xs ++ [n]).map Value.string)) (hg : w1.grownBy w2 v.ownBlock) (hf : ∀ g, v2.ownBlock = some g → v.ownBlock = some g ∨ w1.heap.size ≤ g) : NNow w0 w v (xs ++ [n]) v2 w2 :=
  NNow.from ⟨ho2, (hb.trans (h1.mono hb.size)).grown hg (Nat.le_trans hb.size h1.size) (fun k hk => (ho.lt k hk).1), hg, hf⟩ h1
theorem Tm.good_var0 {u : Int} {n : ByteArray} {t : Ty} {ns : List ByteArray} {ks : List Tm} (h : Tm.good (.mk 1 u n t ns ks) = true) : ks = [] := by
  rw [Tm.good] at h
  simp only [okTm, Bool.and_eq_true] at h
  have h1 := h.1.1
  simp [tmN, inR] at h1
  first | exact h1 | exact List.eq_nil_of_length_eq_zero (by omega) | simpa using h1
theorem Tm.good_kids0 {k u : Int} {n : ByteArray} {t : Ty} {ns : List ByteArray} {ks : List Tm} (h : Tm.good (.mk k u n t ns ks) = true) : Tm.goods ks = true := by
  rw [Tm.good, Bool.and_eq_true, Bool.and_eq_true] at h; exact h.2.2
def FrW (N : Nat) : Prop := ∀ (w0 : World) (k1 : Int) (u1 : Int) (n1 : ByteArray) (tk1 : Int) (tn1 : ByteArray) (tks1 : List Ty) (ns1 : List ByteArray) (ks1 : List Tm) (atks1 : Option Addr) (ctks1 : Nat) (ans1 : Option Addr) (cns1 : Nat) (aks1 : Option Addr) (cks1 : Nat) (b1 o1 : Nat) (sc out : List ByteArray) (vs v : Value) (w : World), Tm.bulk (Tm.mk k1 u1 n1 (Ty.mk tk1 tn1 tks1) ns1 ks1) < N → Tm.bulk (Tm.mk k1 u1 n1 (Ty.mk tk1 tn1 tks1) ns1 ks1) ≤ 1048576 → sc.length + 1 + Tm.bulk (Tm.mk k1 u1 n1 (Ty.mk tk1 tn1 tks1) ns1 ks1) ≤ 4194304 → out.length + 1 + Tm.bulk (Tm.mk k1 u1 n1 (Ty.mk tk1 tn1 tks1) ns1 ks1) ≤ 4194304 → Tm.good (Tm.mk k1 u1 n1 (Ty.mk tk1 tn1 tks1) ns1 ks1) = true → w0.cell? ⟨b1, o1, none⟩ = some (.int .i64 k1) → w0.cell? ⟨b1, o1 + 2, none⟩ = some (.string n1) → w0.cell? ⟨b1, o1 + 6, none⟩ = some (.slice ans1 ns1.length cns1) → w0.cell? ⟨b1, o1 + 7, none⟩ = some (.slice aks1 ks1.length cks1) → RdS w0 (Tm.d (Tm.mk k1 u1 n1 (Ty.mk tk1 tn1 tks1) ns1 ks1)) [.int .i64 k1, .int .i64 u1, .string n1, .int .i64 tk1, .string tn1, .slice atks1 tks1.length ctks1, .slice ans1 ns1.length cns1, .slice aks1 ks1.length cks1] → Below w0.heap.size w0 w → StrsL w sc vs → NotOwn sc vs v → w.ownsRow w0.heap.size 9 1 v out.length (out.map Value.string) →
  Calls Try.prog 63 #[.pointer (some ⟨b1, o1, none⟩), vs, v] w (NPost w0 w v (Tm.free (Tm.mk k1 u1 n1 (Ty.mk tk1 tn1 tks1) ns1 ks1) sc out))
set_option maxRecDepth 100000 in
set_option maxHeartbeats 4000000 in
theorem l03Free_step (N : Nat) (ih : FrW N) : FrW (N + 1) := by
  intro w0 k1 u1 n1 tk1 tn1 tks1 ns1 ks1 atks1 ctks1 ans1 cns1 aks1 cks1 b1 o1 sc out vs v w hN hM hsM hoM hg x0 x2 x6 x7 hr hb0 hL hno hown
  have y0 := (hb0.cell (p := ⟨b1, o1, none⟩) (World.block_lt_of_cell? _ _ x0)).trans x0
  have y2 := (hb0.cell (p := ⟨b1, o1 + 2, none⟩) (World.block_lt_of_cell? _ _ x2)).trans x2
  have y7 := (hb0.cell (p := ⟨b1, o1 + 7, none⟩) (World.block_lt_of_cell? _ _ x7)).trans x7
  have hsz := hb0.size
  have HB0 := hid hb0
  have HO := hid hown
  have HL := hid hL
  have HNO := hid hno
  have HLQ := hid (last_L sc vs n1 w hL)
  have HLO := hid (last_L out v n1 w (StrsL.of_own hown))
  have hlh := lastAt_has n1 sc
  have hlo := lastAt_has n1 out
  obtain ⟨ax, cx, rfl, -⟩ := hL
  clear hb0 hown hno
  by_cases h1 : k1 = 1
  case pos =>
    subst h1
    have HZ := hid (show ks1.length = 0 by rw [Tm.good_var0 hg]; rfl)
    have X7 := hid x7
    have X7L := hid (World.block_lt_of_cell? _ _ x7)
    clear x0 x2 x6 x7 hr ih hN hg hM
    by_cases hh : hasStr sc n1 = true
    case pos =>
      have gr : decide (lastAt n1 sc < 0) = false := by rw [hh] at hlh; simp at hlh ⊢; omega
      have HF := hid (Tm.free_has (u := u1) (t := Ty.mk tk1 tn1 tks1) (ns := ns1) (ks := ks1) (out := out) hh)
      clear hh hlh hlo hoM hsM HLO
      generalize lastAt n1 sc = r at gr HLQ
      go_enter Try.func63, Try.ntmps63
      go_wp2_with fail
      refine HLQ.out.mono ?_
      rintro e w3 ⟨rfl, rfl⟩
      go_wp2_with fail
      go_loopw [2, 7] (fun u n wr => ∃ (j : Nat), j = 0 ∧ n = .int .i64 j ∧ u = v ∧ w = wr) (fun _ n _ => 0)
      case atStart => exact ⟨0, rfl, rfl, rfl, rfl⟩
      case round =>
        obtain ⟨j, hj, rfl, rfl, rfl⟩ := hrel
        have hlt : ¬ j < ks1.length := by have := HZ.out; omega
        go_wp2_with fail
        go_ret
        rw [HF.out]
        exact ⟨_, rfl, NNow.refl HO.out HB0.out⟩
    case neg =>
    have hhf := (Bool.not_eq_true _).mp hh
    have gr : decide (lastAt n1 sc < 0) = true := by rw [hhf] at hlh; simp at hlh ⊢; omega
    clear hh hlh
    generalize lastAt n1 sc = r at gr HLQ
    by_cases hq : hasStr out n1 = true
    case pos =>
      have gq : decide (lastAt n1 out < 0) = false := by rw [hq] at hlo; simp at hlo ⊢; omega
      have HF := hid (Tm.free_out (u := u1) (t := Ty.mk tk1 tn1 tks1) (ns := ns1) (ks := ks1) hhf hq)
      clear hq hlo hhf hoM hsM
      generalize lastAt n1 out = q at gq HLO
      go_enter Try.func63, Try.ntmps63
      go_wp2_with fail
      refine HLQ.out.mono ?_
      rintro e w3 ⟨rfl, rfl⟩
      go_wp2_with fail
      refine HLO.out.mono ?_
      rintro e w3 ⟨rfl, rfl⟩
      go_wp2_with fail
      go_loopw [2, 7] (fun u n wr => ∃ (j : Nat), j = 0 ∧ n = .int .i64 j ∧ u = v ∧ w = wr) (fun _ n _ => 0)
      case atStart => exact ⟨0, rfl, rfl, rfl, rfl⟩
      case round =>
        obtain ⟨j, hj, rfl, rfl, rfl⟩ := hrel
        have hlt : ¬ j < ks1.length := by have := HZ.out; omega
        go_wp2_with fail
        go_ret
        rw [HF.out]
        exact ⟨_, rfl, NNow.refl HO.out HB0.out⟩
    case neg =>
      have hqf := (Bool.not_eq_true _).mp hq
      have gq : decide (lastAt n1 out < 0) = true := by rw [hqf] at hlo; simp at hlo ⊢; omega
      have HF := hid (Tm.free_new (u := u1) (t := Ty.mk tk1 tn1 tks1) (ns := ns1) (ks := ks1) hhf hqf)
      have HOM := hid hoM
      clear hq hqf hlo hhf hoM hsM
      generalize lastAt n1 out = q at gq HLO
      go_enter Try.func63, Try.ntmps63
      go_wp2_with fail
      refine HLQ.out.mono ?_
      rintro e w3 ⟨rfl, rfl⟩
      go_wp2_with fail
      refine HLO.out.mono ?_
      rintro e w3 ⟨rfl, rfl⟩
      have HBA := hid ((Below.refl w.heap.size w).alloc (Nat.le_refl _) (.cells #[.string n1] 9))
      go_wp2_with (at_builtin; refine wpList_append_namesF rfl _ _ rfl w0.heap.size _ out [n1] _ rfl rfl (HO.out.alloc _) (StrsL.one w n1 9) (by simp) ?c1 ?c2 ?_)
      case c1 => have := HOM.out; simp; omega
      case c2 => simp; omega
      intro v2 w2 ho2 hg2 hf2
      have HNN := hid (NNow.one HB0.out HO.out HBA.out (by simpa using ho2) hg2 (by simpa using hf2))
      have y7 := (HNN.out.2.1.cell (p := ⟨b1, o1 + 7, none⟩) X7L.out).trans X7.out
      clear ho2 hg2 hf2
      go_wp2_with fail
      go_loopw [2, 7] (fun u n wr => ∃ (j : Nat), j = 0 ∧ n = .int .i64 j ∧ u = v2 ∧ w2 = wr) (fun _ n _ => 0)
      case atStart => exact ⟨0, rfl, rfl, rfl, rfl⟩
      case round =>
        obtain ⟨j, hj, rfl, rfl, rfl⟩ := hrel
        have hlt : ¬ j < ks1.length := by have := HZ.out; omega
        go_wp2_with fail
        go_ret
        rw [HF.out]
        exact ⟨_, rfl, HNN.out⟩
  case neg =>
  have g1 : (k1 == 1) = false := by simp [h1]
  have HF := hid (Tm.free_mk h1 u1 n1 (Ty.mk tk1 tn1 tks1) ns1 ks1 sc out)
  have HGK := hid (Tm.good_kids0 hg)
  have hbk : Tm.bulks ks1 + ns1.length ≤ Tm.bulk (Tm.mk k1 u1 n1 (Ty.mk tk1 tn1 tks1) ns1 ks1) := by have := Sr.bulks_length ns1; simp only [Tm.bulk]; omega
  have hfk := hr.fTm.2.2.2.2.2
  have hfn := hr.fTm.2.2.2.2.1
  obtain ⟨_, _, e, h2, h3, h4⟩ := hfk.eTm
  simp only [Value.slice.injEq, true_and] at e
  obtain ⟨rfl, rfl⟩ := e
  have hbc := Tm.bulks_length ks1
  have hlk : ks1.length ≤ 1048576 := by omega
  have IH := hid ih
  have H4 := hid h4
  have HK := hid hbk
  have HM := hid hM
  have HN := hid hN
  have HFN := hid hfn
  have HSM := hid hsM
  have HOM := hid hoM
  have X0 := hid x0
  have X2 := hid x2
  have X6 := hid x6
  have X7 := hid x7
  have XL := hid (World.block_lt_of_cell? _ _ x7)
  clear ih hr h4 hbk hN hM hsM hoM x0 x2 x6 x7 y2 h1 hbc hfk hfn hlh hlo HLQ HLO hg
  go_enter Try.func63, Try.ntmps63
  go_wp2_with fail
  go_loopw [2, 7] (fun u n wr => ∃ (j : Nat) (v0 : Value), j ≤ ks1.length ∧ n = .int .i64 j ∧ v0 = u ∧ NNow w0 w v (Tm.frees k1 n1 ns1 0 (ks1.take j) sc out) v0 wr) (fun _ n _ => ks1.length - (intOf n).toNat)
  case atStart => exact ⟨0, _, by omega, rfl, rfl, by simpa [Tm.frees] using NNow.refl HO.out HB0.out⟩
  case round =>
    obtain ⟨j, v0, hj, rfl, rfl, hgn⟩ := hrel
    have hb := hgn.2.1
    have HGN := hid hgn
    have z7 := (hb.cell (p := ⟨b1, o1 + 7, none⟩) XL.out).trans X7.out
    have HBW := hid hb
    clear hgn hb y0 y7
    by_cases hlt : j < ks1.length
    case neg =>
      have hlv : Tm.frees k1 n1 ns1 0 (ks1.take j) sc out = Tm.frees k1 n1 ns1 0 ks1 sc out := by rw [List.take_of_length_le (by omega)]
      have HP := hid (show NPost w0 w v (Tm.free (Tm.mk k1 u1 n1 (Ty.mk tk1 tn1 tks1) ns1 ks1) sc out) (.returned v0) wr from ⟨_, rfl, by rw [HF.out, ← hlv]; exact HGN.out⟩)
      clear hlv
      go_wp2_with fail
      go_ret
      exact HP.out
    case pos =>
      obtain ⟨b, o, rfl, hbl, hall⟩ := H4.out (by omega)
      obtain ⟨t, ht⟩ : ∃ t, ks1[j]? = some t := ⟨_, List.getElem?_eq_getElem hlt⟩
      obtain ⟨k3, u3, n3, ⟨tk3, tn3, tks3⟩, ns3, ks3⟩ := t
      obtain ⟨atks3, ctks3, ans3, cns3, aks3, cks3, q0, q1, q2, q3, q4, q5, q6, q7, hrk⟩ := hall j k3 u3 n3 tk3 tn3 tks3 ns3 ks3 ht
      clear hall H4
      have hbg := Tm.bulk_get ks1 j _ ht
      have hlt2 := Tm.frees_take k1 n1 ns1 ks1 0 j _ sc out ht
      rw [Nat.zero_add] at hlt2
      have hll := Tm.frees_len k1 n1 ns1 0 (ks1.take j) sc out
      have hbt : Tm.bulks (ks1.take j) + 1 + Tm.bulk (Tm.mk k3 u3 n3 (Ty.mk tk3 tn3 tks3) ns3 ks3) ≤ Tm.bulks ks1 := by have h1 := Tm.bulks_take ks1 j _ ht; have h2 := Tm.bulks_le ks1 (j + 1); omega
      have hgk := Tm.goods_get ks1 j _ HGK.out ht
      have hbl2 := boundOf_len k1 n1 ns1 j
      have hbn := fun (W : World) (hW : Below w0.heap.size w0 W) => spec_binds k1 n1 ns1 ans1 cns1 b1 o1 j W ((hW.cell (p := ⟨b1, o1, none⟩) XL.out).trans X0.out) ((hW.cell (p := ⟨b1, o1 + 2, none⟩) XL.out).trans X2.out) ((hW.cell (p := ⟨b1, o1 + 6, none⟩) XL.out).trans X6.out) (HFN.out.below hW)
      have hc := fun vw W hW hs hn ho => IH.out w0 k3 u3 n3 tk3 tn3 tks3 ns3 ks3 atks3 ctks3 ans3 cns3 aks3 cks3 b (o + j * 8) (sc ++ boundOf k1 n1 ns1 j) (Tm.frees k1 n1 ns1 0 (ks1.take j) sc out) vw v0 W (by have := HK.out; have := HN.out; omega) (by have := HK.out; have := HM.out; omega) (by have := HK.out; have := HSM.out; rw [List.length_append]; omega) (by have := HK.out; have := HOM.out; omega) hgk q0 q2 q6 q7 hrk hW hs hn ho
      have hle : sc.length + (boundOf k1 n1 ns1 j).length ≤ 4194304 := by have := HK.out; have := HSM.out; omega
      generalize hbo : boundOf k1 n1 ns1 j = bs at hlt2 hbn hc hle
      generalize hfr : Tm.frees k1 n1 ns1 0 (ks1.take j) sc out = zs at hlt2 HGN hc
      have HSC := hid (HGN.out.scope HL.out HNO.out)
      have HLT := hid hlt2
      have HBN := hid hbn
      have HC := hid hc
      have HLE := hid hle
      have hS : ∀ V : World, Below w0.heap.size w0 V → (Below w0.heap.size w0 V ∧ V.cell? ⟨b1, o1 + 7, none⟩ = some (.slice (some ⟨b, o, none⟩) ks1.length cks1)) := fun V h => ⟨h, (h.cell (p := ⟨b1, o1 + 7, none⟩) XL.out).trans X7.out⟩
      have HS := hid hS
      have hbd0 := (Below.refl wr.heap.size wr).drew
      have HBD0 := hid hbd0
      have hbS : Below w0.heap.size w0 wr.drew := HBW.out.drew
      have HSD := hid (hS _ hbS)
      have HOD := hid (ownsRow.below HGN.out.1 hbd0)
      have HSCD := hid (HSC.out.1.below hbd0)
      clear hlt2 hbn hc ht hrk q0 q1 q2 q3 q4 q5 q6 q7 hbg hll hbt hbo hfr hgk hbl2 hle hS hbd0
      go_wp2_with fail
      go_region_held3 (fun V => Below w0.heap.size w0 V ∧ V.cell? ⟨b1, o1 + 7, none⟩ = some (.slice (some ⟨b, o, none⟩) ks1.length cks1))
        (first | assumption | exact HSD.out | exact HS.out _ hbS | go_keep)
        (first
          | (go_at_call 102; (with_reducible refine (HBN.out _ ?_).mono ?_); (exact (‹Below w0.heap.size w0 _ ∧ _›).1); rintro e W2 ⟨vb, rfl, hsb, hb2⟩; have HSB := hid hsb; have HB2 := hid hb2; have HSC2 := hid (HSCD.out.below hb2); have HO2 := hid (ownsRow.below HOD.out hb2); have hbS := (‹Below w0.heap.size w0 _ ∧ _›).1.trans (hb2.mono (‹Below w0.heap.size w0 _ ∧ _›).1.size); clear hsb hb2)
          | (go_at_call 106; (with_reducible refine (with_L _ _ _ _ _ HSC2.out HSB.out HLE.out).mono ?_); rintro e W3 ⟨vw, rfl, how, hb3⟩; have HOW := hid how; have HB3 := hid hb3; have HO3 := hid (ownsRow.below HO2.out hb3); have hbS := (‹Below w0.heap.size w0 W2 ∧ _›).1.trans (hb3.mono (‹Below w0.heap.size w0 W2 ∧ _›).1.size); clear how hb3)
          | (go_at_call 63; (with_reducible refine (HC.out _ _ ?_ ?_ ?_ ?_).mono ?_); (exact (‹Below w0.heap.size w0 W3 ∧ _›).1); (exact StrsL.of_own HOW.out); (exact NotOwn.fresh HO2.out HOW.out); (exact HO3.out); rintro e Vz ⟨vz, rfl, hgn3⟩; have HG3 := hid hgn3; have hbS := hgn3.2.1; clear hgn3))
      clear hbS
      go_wp2_with fail
      go_roundw
      case rel => exact ⟨j + 1, _, by omega, by go_num, rfl, by rw [HLT.out]; exact (((HGN.out.below HBD0.out).below HB2.out).below HB3.out).step HG3.out⟩
      case measure => simp [intOf]; omega
theorem l03Free_all : ∀ N, FrW N
  | 0 => fun _ _ _ _ _ _ _ _ _ _ _ _ _ _ _ _ _ _ _ _ _ _  h => absurd h (by omega)
  | N + 1 => l03Free_step N (l03Free_all N)
end Go.Proofs.Ytdcifcfkjhpokaa
