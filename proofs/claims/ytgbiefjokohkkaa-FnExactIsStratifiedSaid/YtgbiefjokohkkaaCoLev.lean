/- Cores: the levels of the occurrences of a variable: plain facts, and the walk of the reference. -/
import Derived.Test.YtgbiefjokohkkaaCoClosed
import Derived.Test.YtgbiefjokohkkaaKeep
import Derived.Deep.RegionHeld3
import Derived.BigQuiet
namespace Go.Proofs.Ytgbiefjokohkkaa
open Go.ChangeShapes Go.WideShapes Go.ChangeAt Go.RowKit Go.BigFrame
open Go.Sort (grow)
set_option linter.unusedVariables false

mutual
def Co.lev : Co → Int → Int → List Int
  | .mk k v _ ks, i, l => if k = 1 then (if v = i then [l] else []) else Co.levs k 0 ks i (if k = 6 then l + 1 else l)
def Co.levs : Int → Nat → List Co → Int → Int → List Int
  | _, _, [], _, _ => []
  | k, j, t :: ts, i, l => Co.lev t (i + bindsOf k j) l ++ Co.levs k (j + 1) ts i l
end
mutual
theorem Co.lev_len : ∀ (t : Co) (i l : Int), (Co.lev t i l).length ≤ 1 + Co.bulk t
  | .mk k v ds ks, i, l => by
    have := Co.levs_len k 0 ks i (if k = 6 then l + 1 else l)
    simp only [Co.lev, Co.bulk]
    split
    · split <;> simp
    · omega
theorem Co.levs_len : ∀ (k : Int) (j : Nat) (ts : List Co) (i l : Int), (Co.levs k j ts i l).length ≤ Co.bulks ts
  | k, j, [], i, l => by simp [Co.levs]
  | k, j, t :: ts, i, l => by
    have h1 := Co.lev_len t (i + bindsOf k j) l
    have h2 := Co.levs_len k (j + 1) ts i l
    simp only [Co.levs, Co.bulks, List.length_append]; omega
end
theorem Co.levs_take : ∀ (k : Int) (i : Nat) (ts : List Co) (d l : Int) (j : Nat) (t : Co), ts[j]? = some t →
    Co.levs k i (ts.take (j + 1)) d l = Co.levs k i (ts.take j) d l ++ Co.lev t (d + bindsOf k (i + j : Nat)) l
  | k, i, [], d, l, j, t, h => by simp at h
  | k, i, u :: ts, d, l, 0, t, h => by simp at h; subst h; simp [Co.levs]
  | k, i, u :: ts, d, l, j + 1, t, h => by
    have e := Co.levs_take k (i + 1) ts d l j t (by simpa using h)
    rw [List.take_succ_cons, List.take_succ_cons, Co.levs, Co.levs, e, List.append_assoc, show i + 1 + j = i + (j + 1) by omega]
theorem Co.levs_le : ∀ (k : Int) (i : Nat) (ts : List Co) (d l : Int) (j : Nat), (Co.levs k i (ts.take j) d l).length + (Co.bulks ts - Co.bulks (ts.take j)) ≤ Co.bulks ts
  | k, i, ts, d, l, j => by
    have := Co.levs_len k i (ts.take j) d l
    have h2 : Co.bulks (ts.take j) ≤ Co.bulks ts := by have := Co.bulks_le ts j; omega
    omega
theorem info64 : (Try.prog.info? 2).map (fun i => (i.zero, i.size, i.bytes)) = some (some (.int .i64 0), 1, 8) := by kernel_rfl

def LevW (N : Nat) : Prop := ∀ (w0 : World) (k1 : Int) (v1 : Int) (ds1 : List Int) (ks1 : List Co) (ads1 : Option Addr) (cds1 : Nat) (aks1 : Option Addr) (cks1 : Nat) (b1 o1 : Nat) (i l : Int) (v : Value) (xs : List Int) (w : World), Co.bulk (Co.mk k1 v1 ds1 ks1) < N → 0 ≤ i → i + Co.bulk (Co.mk k1 v1 ds1 ks1) ≤ 4194304 → 0 ≤ l → l + Co.bulk (Co.mk k1 v1 ds1 ks1) ≤ 4194304 → xs.length + 1 + Co.bulk (Co.mk k1 v1 ds1 ks1) ≤ 4194304 →
  w0.cell? ⟨b1, o1, none⟩ = some (.int .i64 k1) → w0.cell? ⟨b1, o1 + 1, none⟩ = some (.int .i64 v1) → w0.cell? ⟨b1, o1 + 2, none⟩ = some (.slice ads1 ds1.length cds1) → w0.cell? ⟨b1, o1 + 3, none⟩ = some (.slice aks1 ks1.length cks1) → RdS w0 (Co.d (Co.mk k1 v1 ds1 ks1)) [.int .i64 k1, .int .i64 v1, .slice ads1 ds1.length cds1, .slice aks1 ks1.length cks1] → Below w0.heap.size w0 w → w.ownsRow w0.heap.size 2 1 v xs.length (xs.map (Value.int .i64)) →
  Calls Try.prog 106 #[.pointer (some ⟨b1, o1, none⟩), .int .i64 i, .int .i64 l, v] w (GrowPost 2 w0 w (xs ++ Co.lev (Co.mk k1 v1 ds1 ks1) i l))
set_option maxRecDepth 100000 in
set_option maxHeartbeats 2000000 in
theorem lev_step (N : Nat) (ih : LevW N) : LevW (N + 1) := by
  obtain ⟨i0, hi, hz0, hz1, hz2⟩ := info_parts info64
  intro w0 k1 v1 ds1 ks1 ads1 cds1 aks1 cks1 b1 o1 i l v xs w hN hi0 hiM hl0 hlM hxM x0 x1 x2 x3 hr hb0 hown
  have hbk : Co.bulk (Co.mk k1 v1 ds1 ks1) = In.bulks ds1 + Co.bulks ks1 := rfl
  have HE := hid (show Co.lev (Co.mk k1 v1 ds1 ks1) i l = if k1 = 1 then (if v1 = i then [l] else []) else Co.levs k1 0 ks1 i (if k1 = 6 then l + 1 else l) from rfl)
  have y0 := (hb0.cell (p := ⟨b1, o1, none⟩) (World.block_lt_of_cell? _ _ x0)).trans x0
  have y1 := (hb0.cell (p := ⟨b1, o1 + 1, none⟩) (World.block_lt_of_cell? _ _ x1)).trans x1
  have y3 := (hb0.cell (p := ⟨b1, o1 + 3, none⟩) (World.block_lt_of_cell? _ _ x3)).trans x3
  have hsz := hb0.size
  have HB0 := hid hb0
  have HO := hid hown
  clear hb0 hown
  by_cases h1 : k1 = 1
  case pos =>
    subst h1
    by_cases hv : v1 = i
    case pos =>
      subst hv
      have HF := hid (show Co.lev (Co.mk 1 v1 ds1 ks1) v1 l = [l] by rw [HE.out]; simp)
      have HI := hid hi
      clear x0 x1 x2 x3 hr ih hiM hN hlM HE y3 hi
      go_enter Try.func106, Try.ntmps106
      go_wp2_with (at_builtin; refine wpList_append_own _ rfl _ _ 22 rfl w0.heap.size 2 i0 (.int .i64 0) 1 8 Try.underlying22 HI.out hz0 hz1 hz2 rfl (by decide) _ _ _ rfl (HO.out.alloc _) ⟨w.heap.size, 0, none⟩ 1 1 [.int .i64 l] rfl rfl ?c1 ?c2 ?c3 ?c4 ?c5 ?_)
      case c1 => exact one_new _ _ _
      case c2 => intro x hx; simp at hx; subst hx; rfl
      case c3 => unfold maxLen; omega
      case c4 => omega
      case c5 => simp; omega
      intro v' w3 hown3 hgrow3 hnil3
      have HR := hid (grow_one HB0.out HO.out hown3 hgrow3)
      clear hown3 hgrow3 hnil3
      go_wp2_with fail
      go_ret
      rw [HF.out]
      exact HR.out
    case neg =>
      have hvb : (v1 == i) = false := by simp [hv]
      have HF := hid (show Co.lev (Co.mk 1 v1 ds1 ks1) i l = [] by rw [HE.out]; simp [hv])
      clear hv x0 x1 x2 x3 hr ih hN HE y3 hi
      go_enter Try.func106, Try.ntmps106
      go_wp2_with fail
      go_ret
      rw [HF.out, List.append_nil]
      exact ⟨v, rfl, HO.out, HB0.out, KeepT.refl _ _⟩
  case neg =>
    have g1 : (k1 == 1) = false := by simp [h1]
    have HF := hid (show Co.lev (Co.mk k1 v1 ds1 ks1) i l = Co.levs k1 0 ks1 i (if k1 = 6 then l + 1 else l) by rw [HE.out]; simp [h1])
    obtain ⟨_, _, e, h2, h3, h4⟩ := hr.fCo.2.2.2.eCo
    simp only [Value.slice.injEq, true_and] at e
    obtain ⟨rfl, rfl⟩ := e
    have IH := hid ih
    have H4 := hid h4
    have HK := hid hbk
    have HN := hid hN
    have X0 := hid x0
    have X3 := hid x3
    have XL := hid (World.block_lt_of_cell? _ _ x3)
    have hcl := Co.bulks_length ks1
    have hlen : ks1.length ≤ 4194304 := by omega
    have HIM := hid hiM
    have HLM := hid hlM
    have HXM := hid hxM
    have him : i ≤ 4194304 := by omega
    have hlm : l ≤ 4194304 := by omega
    clear ih hr h4 hbk hN hiM hlM hxM x0 x1 x2 x3 y1 h1 hcl HE hi hz0 hz1 hz2
    by_cases h6 : k1 = 6
    case pos =>
      subst h6
      rw [if_pos rfl] at HF
      go_enter Try.func106, Try.ntmps106
      go_wp2_with fail
      go_loopw [3, 9] (fun v n wr => ∃ (j : Nat), j ≤ ks1.length ∧ n = .int .i64 j ∧ GrowNow 2 w0 w (xs ++ Co.levs 6 0 (ks1.take j) i (l + 1)) v wr) (fun _ n _ => ks1.length - (intOf n).toNat)
      case atStart => exact ⟨0, by omega, rfl, by simpa [Co.levs] using HO.out, HB0.out, KeepT.refl _ _⟩
      case round =>
        obtain ⟨j, hj, rfl, hgn⟩ := hrel
        have hb := hgn.2.1
        have HGN := hid hgn
        have z3 := (hb.cell (p := ⟨b1, o1 + 3, none⟩) XL.out).trans X3.out
        have z0 := (hb.cell (p := ⟨b1, o1, none⟩) XL.out).trans X0.out
        have HBW := hid hb
        clear hgn hb y0 y3
        by_cases hlt : j < ks1.length
        case pos =>
          obtain ⟨b, o, rfl, hbl, hall⟩ := H4.out (by omega)
          obtain ⟨t, ht⟩ : ∃ t, ks1[j]? = some t := ⟨_, List.getElem?_eq_getElem hlt⟩
          obtain ⟨k3, v3, ds3, ks3⟩ := t
          obtain ⟨ads3, cds3, aks3, cks3, q0, q1, q2, q3, hrk⟩ := hall j k3 v3 ds3 ks3 ht
          clear hall H4
          have hbg := Co.bulk_get ks1 j _ ht
          have HT := hid (Co.levs_take 6 0 ks1 i (l + 1) j _ ht)
          have hll := Co.levs_len 6 0 (ks1.take j) i (l + 1)
          have hbt : Co.bulks (ks1.take j) + 1 + Co.bulk (.mk k3 v3 ds3 ks3) ≤ Co.bulks ks1 := by have h1 := Co.bulks_take ks1 j _ ht; have h2 := Co.bulks_le ks1 (j + 1); omega
          have hbb := bindsOf_le 6 j
          have hxl : (xs ++ Co.levs 6 0 (ks1.take j) i (l + 1)).length + 1 + Co.bulk (.mk k3 v3 ds3 ks3) ≤ 4194304 := by have := HK.out; have := HXM.out; rw [List.length_append]; omega
          have hc := fun v W hW ho => IH.out w0 k3 v3 ds3 ks3 ads3 cds3 aks3 cks3 b (o + j * 4) (i + bindsOf 6 j) (l + 1) v (xs ++ Co.levs 6 0 (ks1.take j) i (l + 1)) W (by have := HK.out; have := HN.out; omega) (by omega) (by have := HK.out; have := HIM.out; omega) (by omega) (by have := HK.out; have := HLM.out; omega) hxl q0 q1 q2 q3 hrk hW ho
          rw [Nat.zero_add] at HT
          rw [List.append_assoc] at hc
          generalize hbq : bindsOf 6 j = bb at hc hbb HT
          have hcb := fun W (h0 : W.cell? ⟨b1, o1, none⟩ = some (.int .i64 6)) => spec_binds 6 b1 o1 j W h0
          rw [hbq] at hcb
          have HC := hid hc
          have HCB := hid hcb
          have hbi : bb ≤ 1 := hbb.2
          have hb0' : 0 ≤ bb := hbb.1
          clear hc hcb hrk q0 q1 q2 q3 ht hll hbt hxl hbq hbb hbg
          have hbd : Below w0.heap.size w0 wr.drew := HBW.out.drew
          have hs1 : IntKind.i64.wrap (i + bb) = i + bb := IntWalk.i64_in _ (by omega)
          go_wp2_with fail
          go_region_held3 (fun V => Below w0.heap.size w0 V ∧ V.cell? ⟨b1, o1 + 3, none⟩ = some (.slice (some ⟨b, o, none⟩) ks1.length cks1))
            (first | assumption | exact ⟨hbq, (hbq.cell (p := ⟨b1, o1 + 3, none⟩) XL.out).trans X3.out⟩ | go_keep)
            (first
              | (go_at_call 99; (with_reducible refine (HCB.out _ ?_).mono ?_); (exact ((‹Below w0.heap.size w0 _ ∧ _›).1.cell (p := ⟨b1, o1, none⟩) XL.out).trans X0.out); rintro e V1 ⟨rfl, rfl⟩)
              | (go_at_call 106; (with_reducible refine (HC.out _ _ ?_ ?_).mono ?_); (exact (‹Below w0.heap.size w0 _ ∧ _›).1); (exact HGN.out.1); rintro e V2 ⟨v2, rfl, hgn2⟩; have HG2 := hid hgn2; have hbq := hgn2.2.1; clear hgn2))
          clear hbd hs1 z3 z0 hbq
          go_wp2_with fail
          go_roundw
          case rel => exact ⟨j + 1, by omega, by go_num, by rw [HT.out]; exact HGN.out.drew.step HG2.out⟩
          case measure => simp [intOf]; omega
        case neg =>
          rw [List.take_of_length_le (by omega)] at HGN
          go_wp2_with fail
          go_ret
          rw [HF.out]
          exact ⟨_, rfl, HGN.out⟩
    case neg =>
      have g6 : (k1 == 6) = false := by simp [h6]
      rw [if_neg h6] at HF
      clear h6
      go_enter Try.func106, Try.ntmps106
      go_wp2_with fail
      go_loopw [3, 9] (fun v n wr => ∃ (j : Nat), j ≤ ks1.length ∧ n = .int .i64 j ∧ GrowNow 2 w0 w (xs ++ Co.levs k1 0 (ks1.take j) i l) v wr) (fun _ n _ => ks1.length - (intOf n).toNat)
      case atStart => exact ⟨0, by omega, rfl, by simpa [Co.levs] using HO.out, HB0.out, KeepT.refl _ _⟩
      case round =>
        obtain ⟨j, hj, rfl, hgn⟩ := hrel
        have hb := hgn.2.1
        have HGN := hid hgn
        have z3 := (hb.cell (p := ⟨b1, o1 + 3, none⟩) XL.out).trans X3.out
        have z0 := (hb.cell (p := ⟨b1, o1, none⟩) XL.out).trans X0.out
        have HBW := hid hb
        clear hgn hb y0 y3
        by_cases hlt : j < ks1.length
        case pos =>
          obtain ⟨b, o, rfl, hbl, hall⟩ := H4.out (by omega)
          obtain ⟨t, ht⟩ : ∃ t, ks1[j]? = some t := ⟨_, List.getElem?_eq_getElem hlt⟩
          obtain ⟨k3, v3, ds3, ks3⟩ := t
          obtain ⟨ads3, cds3, aks3, cks3, q0, q1, q2, q3, hrk⟩ := hall j k3 v3 ds3 ks3 ht
          clear hall H4
          have hbg := Co.bulk_get ks1 j _ ht
          have HT := hid (Co.levs_take k1 0 ks1 i l j _ ht)
          have hll := Co.levs_len k1 0 (ks1.take j) i l
          have hbt : Co.bulks (ks1.take j) + 1 + Co.bulk (.mk k3 v3 ds3 ks3) ≤ Co.bulks ks1 := by have h1 := Co.bulks_take ks1 j _ ht; have h2 := Co.bulks_le ks1 (j + 1); omega
          have hbb := bindsOf_le k1 j
          have hxl : (xs ++ Co.levs k1 0 (ks1.take j) i l).length + 1 + Co.bulk (.mk k3 v3 ds3 ks3) ≤ 4194304 := by have := HK.out; have := HXM.out; rw [List.length_append]; omega
          have hc := fun v W hW ho => IH.out w0 k3 v3 ds3 ks3 ads3 cds3 aks3 cks3 b (o + j * 4) (i + bindsOf k1 j) l v (xs ++ Co.levs k1 0 (ks1.take j) i l) W (by have := HK.out; have := HN.out; omega) (by omega) (by have := HK.out; have := HIM.out; omega) hl0 (by have := HK.out; have := HLM.out; omega) hxl q0 q1 q2 q3 hrk hW ho
          rw [Nat.zero_add] at HT
          rw [List.append_assoc] at hc
          generalize hbq : bindsOf k1 j = bb at hc hbb HT
          have hcb := fun W (h0 : W.cell? ⟨b1, o1, none⟩ = some (.int .i64 k1)) => spec_binds k1 b1 o1 j W h0
          rw [hbq] at hcb
          have HC := hid hc
          have HCB := hid hcb
          have hbi : bb ≤ 1 := hbb.2
          have hb0' : 0 ≤ bb := hbb.1
          clear hc hcb hrk q0 q1 q2 q3 ht hll hbt hxl hbq hbb hbg
          have hbd : Below w0.heap.size w0 wr.drew := HBW.out.drew
          have hs1 : IntKind.i64.wrap (i + bb) = i + bb := IntWalk.i64_in _ (by omega)
          go_wp2_with fail
          go_region_held3 (fun V => Below w0.heap.size w0 V ∧ V.cell? ⟨b1, o1 + 3, none⟩ = some (.slice (some ⟨b, o, none⟩) ks1.length cks1))
            (first | assumption | exact ⟨hbq, (hbq.cell (p := ⟨b1, o1 + 3, none⟩) XL.out).trans X3.out⟩ | go_keep)
            (first
              | (go_at_call 99; (with_reducible refine (HCB.out _ ?_).mono ?_); (exact ((‹Below w0.heap.size w0 _ ∧ _›).1.cell (p := ⟨b1, o1, none⟩) XL.out).trans X0.out); rintro e V1 ⟨rfl, rfl⟩)
              | (go_at_call 106; (with_reducible refine (HC.out _ _ ?_ ?_).mono ?_); (exact (‹Below w0.heap.size w0 _ ∧ _›).1); (exact HGN.out.1); rintro e V2 ⟨v2, rfl, hgn2⟩; have HG2 := hid hgn2; have hbq := hgn2.2.1; clear hgn2))
          clear hbd hs1 z3 z0 hbq
          go_wp2_with fail
          go_roundw
          case rel => exact ⟨j + 1, by omega, by go_num, by rw [HT.out]; exact HGN.out.drew.step HG2.out⟩
          case measure => simp [intOf]; omega
        case neg =>
          rw [List.take_of_length_le (by omega)] at HGN
          go_wp2_with fail
          go_ret
          rw [HF.out]
          exact ⟨_, rfl, HGN.out⟩
theorem lev_all : ∀ N, LevW N
  | 0 => fun _ _ _ _ _ _ _ _ _ _ _ _ _ _ _ _  h => absurd h (by omega)
  | N + 1 => lev_step N (lev_all N)
end Go.Proofs.Ytgbiefjokohkkaa
