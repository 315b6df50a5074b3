/- Walks: the levels of the occurrences of a variable, in the program. -/
import Derived.Test.YtgbiefjokohkkaaCoStrat
namespace Go.Proofs.Ytgbiefjokohkkaa
open Go.ChangeShapes Go.WideShapes Go.ChangeAt Go.RowKit Go.BigFrame
open Go.Sort (grow)
set_option linter.unusedVariables false

def LviW (N : Nat) : Prop := ∀ (w0 : World) (k1 : Int) (v1 : Int) (ds1 : List Int) (ks1 : List Co) (ads1 : Option Addr) (cds1 : Nat) (aks1 : Option Addr) (cks1 : Nat) (i l : Int) (v : Value) (xs : List Int) (w : World), Co.bulk (Co.mk k1 v1 ds1 ks1) < N → 0 ≤ i → i + Co.bulk (Co.mk k1 v1 ds1 ks1) ≤ 4194304 → 0 ≤ l → l + Co.bulk (Co.mk k1 v1 ds1 ks1) ≤ 4194304 → xs.length + 1 + Co.bulk (Co.mk k1 v1 ds1 ks1) ≤ 4194304 → Co.good (Co.mk k1 v1 ds1 ks1) = true →
  RdS w0 (Co.d (Co.mk k1 v1 ds1 ks1)) [.int .i64 k1, .int .i64 v1, .slice ads1 ds1.length cds1, .slice aks1 ks1.length cks1] → Below w0.heap.size w0 w → w.ownsRow w0.heap.size 2 1 v xs.length (xs.map (Value.int .i64)) →
  Calls Try.prog 108 #[.agg #[.int .i64 k1, .int .i64 v1, .slice ads1 ds1.length cds1, .slice aks1 ks1.length cks1], .int .i64 i, .int .i64 l, v] w (GrowPost 2 w0 w (xs ++ Co.lev (Co.mk k1 v1 ds1 ks1) i l))
set_option maxRecDepth 100000 in
set_option maxHeartbeats 4000000 in
theorem lvi_step (N : Nat) (ih : LviW N) : LviW (N + 1) := by
  obtain ⟨i0, hi, hz0, hz1, hz2⟩ := info_parts info64
  intro w0 k1 v1 ds1 ks1 ads1 cds1 aks1 cks1 i l v xs w hN hi0 hiM hl0 hlM hxM hg hr hb0 hown
  have hbk : Co.bulk (Co.mk k1 v1 ds1 ks1) = In.bulks ds1 + Co.bulks ks1 := rfl
  have HE := hid (show Co.lev (Co.mk k1 v1 ds1 ks1) i l = if k1 = 1 then (if v1 = i then [l] else []) else Co.levs k1 0 ks1 i (if k1 = 6 then l + 1 else l) from rfl)
  have hsz := hb0.size
  have HB0 := hid hb0
  have HO := hid hown
  have hgd : Co.good (Co.mk k1 v1 ds1 ks1) = (okCo k1 v1 ds1 ks1.length && Co.goods ks1) := rfl
  rw [hgd, Bool.and_eq_true] at hg
  clear hb0 hown
  by_cases h1 : k1 = 1
  case pos =>
    subst h1
    have hn : ks1 = [] := by
      have := hg.1
      simp only [okCo, Bool.and_eq_true] at this
      have h := this.1
      simp [coN, inR] at h
      first | exact h | exact List.eq_nil_of_length_eq_zero (by omega) | simpa using h
    subst hn
    by_cases hv : v1 = i
    case pos =>
      subst hv
      have HF := hid (show Co.lev (Co.mk 1 v1 ds1 []) v1 l = [l] by rw [HE.out]; simp)
      have HI := hid hi
      clear hr ih hiM hN hlM HE hi hg hgd
      go_enter Try.func108, Try.ntmps108
      go_wp2_with (at_builtin; refine wpList_append_own _ rfl _ _ 22 rfl w0.heap.size 2 i0 (.int .i64 0) 1 8 Try.underlying22 HI.out hz0 hz1 hz2 rfl (by decide) _ _ _ rfl ((HO.out.alloc _).alloc _) ⟨w.heap.size + 1, 0, none⟩ 1 1 [.int .i64 l] rfl rfl ?c1 ?c2 ?c3 ?c4 ?c5 ?_)
      case c1 =>
        have h := one_new (w.alloc (.cells #[.int .i64 1, .int .i64 v1, .slice ads1 ds1.length cds1, .slice aks1 0 cks1] 30)) (.int .i64 l) 2
        rw [World.size_alloc] at h
        exact h
      case c2 => intro x hx; simp at hx; subst hx; rfl
      case c3 => unfold maxLen; omega
      case c4 => omega
      case c5 => simp; omega
      intro v' w3 hown3 hgrow3 hnil3
      have HR := hid (grow_one (HB0.out.alloc hsz (.cells #[.int .i64 1, .int .i64 v1, .slice ads1 ds1.length cds1, .slice aks1 0 cks1] 30)) (HO.out.alloc _) hown3 hgrow3)
      clear hown3 hgrow3 hnil3
      go_wp2_with fail
      go_ret
      rw [HF.out]
      exact HR.out.from (KeepT.of_below ((Below.refl _ _).alloc (Nat.le_refl _) _))
    case neg =>
      have hvb : (v1 == i) = false := by simp [hv]
      have HF := hid (show Co.lev (Co.mk 1 v1 ds1 []) i l = [] by rw [HE.out]; simp [hv])
      clear hv hr ih hN HE hi hg hgd
      go_enter Try.func108, Try.ntmps108
      go_wp2_with fail
      go_loopw [3, 9, 10, 27] (fun v' _ _ n wr => v' = v ∧ n = .int .i64 0 ∧ wr = w.alloc (.cells #[.int .i64 1, .int .i64 v1, .slice ads1 ds1.length cds1, .slice aks1 0 cks1] 30)) (fun _ _ _ n _ => 0)
      case atStart => exact ⟨rfl, rfl, rfl⟩
      case round =>
        obtain ⟨rfl, rfl, rfl⟩ := hrel
        go_wp2_with fail
        go_ret
        rw [HF.out, List.append_nil]
        exact ⟨_, rfl, HO.out.alloc _, HB0.out.alloc hsz _, KeepT.of_below ((Below.refl _ _).alloc (Nat.le_refl _) _)⟩
  case neg =>
    have g1 : (k1 == 1) = false := by simp [h1]
    have HF := hid (show Co.lev (Co.mk k1 v1 ds1 ks1) i l = Co.levs k1 0 ks1 i (if k1 = 6 then l + 1 else l) by rw [HE.out]; simp [h1])
    obtain ⟨_, _, e, h2, h3, h4⟩ := hr.fCo.2.2.2.eCo
    simp only [Value.slice.injEq, true_and] at e
    obtain ⟨rfl, rfl⟩ := e
    have IH := hid ih
    have H4 := hid h4
    have HK := hid hbk
    have HN := hid hN
    have HG := hid hg.2
    have hcl := Co.bulks_length ks1
    have hlen : ks1.length ≤ 4194304 := by omega
    have HIM := hid hiM
    have HLM := hid hlM
    have HXM := hid hxM
    have him : i ≤ 4194304 := by omega
    have hlm : l ≤ 4194304 := by omega
    clear ih hr h4 hbk hN hiM hlM hxM h1 hcl HE hi hz0 hz1 hz2 hg hgd
    by_cases h6 : k1 = 6
    case pos =>
      subst h6
      rw [if_pos rfl] at HF
      go_enter Try.func108, Try.ntmps108
      go_wp2_with fail
      go_loopw [3, 9, 10, 27] (fun v _ _ n wr => ∃ (j : Nat), j ≤ ks1.length ∧ n = .int .i64 j ∧ GrowNow 2 w0 (w.alloc (.cells #[.int .i64 6, .int .i64 v1, .slice ads1 ds1.length cds1, .slice aks1 ks1.length cks1] 30)) (xs ++ Co.levs 6 0 (ks1.take j) i (l + 1)) v wr) (fun _ _ _ n _ => ks1.length - (intOf n).toNat)
      case atStart => exact ⟨0, by omega, rfl, by simpa [Co.levs] using HO.out.alloc _, HB0.out.alloc hsz _, KeepT.refl _ _⟩
      case round =>
        obtain ⟨j, hj, rfl, hgn⟩ := hrel
        have hb := hgn.2.1
        have HGN := hid hgn
        have hcb := hgn.2.2 w.heap.size #[.int .i64 6, .int .i64 v1, .slice ads1 ds1.length cds1, .slice aks1 ks1.length cks1] 30 (0, 0) (heap_alloc_new w _) (by decide)
        have hcl := (Array.getElem?_eq_some_iff.1 hcb).1
        have HBW := hid hb
        have HCB := hid hcb
        clear hgn hb hcb
        by_cases hlt : j < ks1.length
        case pos =>
          obtain ⟨b, o, rfl, hbl, hall⟩ := H4.out (by omega)
          obtain ⟨t, ht⟩ : ∃ t, ks1[j]? = some t := ⟨_, List.getElem?_eq_getElem hlt⟩
          obtain ⟨k3, v3, ds3, ks3⟩ := t
          obtain ⟨ads3, cds3, aks3, cks3, q0, q1, q2, q3, hrk⟩ := hall j k3 v3 ds3 ks3 ht
          clear hall H4
          have hbg := Co.bulk_get ks1 j _ ht
          have HT := hid (Co.levs_take 6 0 ks1 i (l + 1) j _ ht)
          have hll := Co.levs_len 6 0 (ks1.take j) i (l + 1)
          have hbt : Co.bulks (ks1.take j) + 1 + Co.bulk (.mk k3 v3 ds3 ks3) ≤ Co.bulks ks1 := by have h1 := Co.bulks_take ks1 j _ ht; have h2 := Co.bulks_le ks1 (j + 1); omega
          have hbb := bindsOf_le 6 j
          have hxl : (xs ++ Co.levs 6 0 (ks1.take j) i (l + 1)).length + 1 + Co.bulk (.mk k3 v3 ds3 ks3) ≤ 4194304 := by have := HK.out; have := HXM.out; rw [List.length_append]; omega
          have hgk := Co.goods_get ks1 j _ HG.out ht
          have hc := fun v W hW ho => IH.out w0 k3 v3 ds3 ks3 ads3 cds3 aks3 cks3 (i + bindsOf 6 j) (l + 1) v (xs ++ Co.levs 6 0 (ks1.take j) i (l + 1)) W (by have := HK.out; have := HN.out; omega) (by omega) (by have := HK.out; have := HIM.out; omega) (by omega) (by have := HK.out; have := HLM.out; omega) hxl hgk hrk hW ho
          rw [Nat.zero_add] at HT
          rw [List.append_assoc] at hc
          have hcv := fun W => impl_binds 6 v1 ds1 ks1 ads1 cds1 (some ⟨b, o, none⟩) cks1 j W
          generalize hbq : bindsOf 6 j = bb at hc hbb HT hcv
          have htr := fun W => impl_truth true W
          simp only [if_true] at htr
          have d0 := (HBW.out.cell (p := ⟨b, o + j * 4, none⟩) hbl).trans q0
          have d1 := (HBW.out.cell (p := ⟨b, o + j * 4 + 1, none⟩) hbl).trans q1
          have d2 := (HBW.out.cell (p := ⟨b, o + j * 4 + 2, none⟩) hbl).trans q2
          have d3 := (HBW.out.cell (p := ⟨b, o + j * 4 + 3, none⟩) hbl).trans q3
          have HC := hid hc
          have HBI := hid hcv
          have HTR := hid htr
          have hbi : bb ≤ 1 := hbb.2
          have hb0' : 0 ≤ bb := hbb.1
          clear hc hcv htr hrk q0 q1 q2 q3 ht hll hbt hxl hbq hbb hbg hgk
          have hS : ∀ V : World, Below w0.heap.size w0 V → V.heap[w.heap.size]? = some (.cells #[.int .i64 6, .int .i64 v1, .slice ads1 ds1.length cds1, .slice (some ⟨b, o, none⟩) ks1.length cks1] 30) → V.heap[wr.heap.size]? = some (.cells #[.int .i64 k3, .int .i64 v3, .slice ads3 ds3.length cds3, .slice aks3 ks3.length cks3] 30) → (Below w0.heap.size w0 V ∧ V.heap[w.heap.size]? = some (.cells #[.int .i64 6, .int .i64 v1, .slice ads1 ds1.length cds1, .slice (some ⟨b, o, none⟩) ks1.length cks1] 30) ∧ V.heap[wr.heap.size]? = some (.cells #[.int .i64 k3, .int .i64 v3, .slice ads3 ds3.length cds3, .slice aks3 ks3.length cks3] 30) ∧ V.cell? ⟨w.heap.size, 0, none⟩ = some (.int .i64 6) ∧ V.cell? ⟨w.heap.size, 1, none⟩ = some (.int .i64 v1) ∧ V.cell? ⟨w.heap.size, 2, none⟩ = some (.slice ads1 ds1.length cds1) ∧ V.cell? ⟨w.heap.size, 3, none⟩ = some (.slice (some ⟨b, o, none⟩) ks1.length cks1) ∧ V.cell? ⟨wr.heap.size, 0, none⟩ = some (.int .i64 k3) ∧ V.cell? ⟨wr.heap.size, 1, none⟩ = some (.int .i64 v3) ∧ V.cell? ⟨wr.heap.size, 2, none⟩ = some (.slice ads3 ds3.length cds3) ∧ V.cell? ⟨wr.heap.size, 3, none⟩ = some (.slice aks3 ks3.length cks3)) :=
            fun V h1 h2 h3 => ⟨h1, h2, h3, heap_cell h2 rfl, heap_cell h2 rfl, heap_cell h2 rfl, heap_cell h2 rfl, heap_cell h3 rfl, heap_cell h3 rfl, heap_cell h3 rfl, heap_cell h3 rfl⟩
          have HS := hid hS
          have hK1 : ∀ V V' : World, Below V.heap.size V V' → V.heap[w.heap.size]? = some (.cells #[.int .i64 6, .int .i64 v1, .slice ads1 ds1.length cds1, .slice (some ⟨b, o, none⟩) ks1.length cks1] 30) → V'.heap[w.heap.size]? = some (.cells #[.int .i64 6, .int .i64 v1, .slice ads1 ds1.length cds1, .slice (some ⟨b, o, none⟩) ks1.length cks1] 30) := fun V V' h1 h2 => (h1.block _ (Array.getElem?_eq_some_iff.1 h2).1).trans h2
          have hK2 : ∀ V V' : World, Below V.heap.size V V' → V.heap[wr.heap.size]? = some (.cells #[.int .i64 k3, .int .i64 v3, .slice ads3 ds3.length cds3, .slice aks3 ks3.length cks3] 30) → V'.heap[wr.heap.size]? = some (.cells #[.int .i64 k3, .int .i64 v3, .slice ads3 ds3.length cds3, .slice aks3 ks3.length cks3] 30) := fun V V' h1 h2 => (h1.block _ (Array.getElem?_eq_some_iff.1 h2).1).trans h2
          have HK1 := hid hK1
          have HK2 := hid hK2
          have hbd : Below w0.heap.size w0 (wr.alloc (.cells #[.int .i64 k3, .int .i64 v3, .slice ads3 ds3.length cds3, .slice aks3 ks3.length cks3] 30)).drew := (HBW.out.alloc HBW.out.size _).drew
          have hcd : (wr.alloc (.cells #[.int .i64 k3, .int .i64 v3, .slice ads3 ds3.length cds3, .slice aks3 ks3.length cks3] 30)).drew.heap[w.heap.size]? = some (.cells #[.int .i64 6, .int .i64 v1, .slice ads1 ds1.length cds1, .slice (some ⟨b, o, none⟩) ks1.length cks1] 30) := (Below.heap_alloc wr (.cells #[.int .i64 k3, .int .i64 v3, .slice ads3 ds3.length cds3, .slice aks3 ks3.length cks3] 30) _ hcl).trans HCB.out
          have hkd : (wr.alloc (.cells #[.int .i64 k3, .int .i64 v3, .slice ads3 ds3.length cds3, .slice aks3 ks3.length cks3] 30)).drew.heap[wr.heap.size]? = some (.cells #[.int .i64 k3, .int .i64 v3, .slice ads3 ds3.length cds3, .slice aks3 ks3.length cks3] 30) := heap_alloc_new wr _
          have hod := ownsRow.below HGN.out.1 (((Below.refl wr.heap.size wr).alloc (Nat.le_refl _) (.cells #[.int .i64 k3, .int .i64 v3, .slice ads3 ds3.length cds3, .slice aks3 ks3.length cks3] 30)).drew)
          have HSD := hid (hS _ hbd hcd hkd)
          have HOD := hid hod
          obtain ⟨-, -, -, s3, s4, s5, s6, s7, s8, s9, s10⟩ := hS _ hbd hcd hkd
          clear hS hK1 hK2 hod
          have hs1 : IntKind.i64.wrap (i + bb) = i + bb := IntWalk.i64_in _ (by omega)
          have hs2 : IntKind.i64.wrap (l + 1) = l + 1 := IntWalk.i64_in _ (by omega)
          go_wp2_with fail
          go_region_held3 (fun V => (Below w0.heap.size w0 V ∧ V.heap[w.heap.size]? = some (.cells #[.int .i64 6, .int .i64 v1, .slice ads1 ds1.length cds1, .slice (some ⟨b, o, none⟩) ks1.length cks1] 30) ∧ V.heap[wr.heap.size]? = some (.cells #[.int .i64 k3, .int .i64 v3, .slice ads3 ds3.length cds3, .slice aks3 ks3.length cks3] 30) ∧ V.cell? ⟨w.heap.size, 0, none⟩ = some (.int .i64 6) ∧ V.cell? ⟨w.heap.size, 1, none⟩ = some (.int .i64 v1) ∧ V.cell? ⟨w.heap.size, 2, none⟩ = some (.slice ads1 ds1.length cds1) ∧ V.cell? ⟨w.heap.size, 3, none⟩ = some (.slice (some ⟨b, o, none⟩) ks1.length cks1) ∧ V.cell? ⟨wr.heap.size, 0, none⟩ = some (.int .i64 k3) ∧ V.cell? ⟨wr.heap.size, 1, none⟩ = some (.int .i64 v3) ∧ V.cell? ⟨wr.heap.size, 2, none⟩ = some (.slice ads3 ds3.length cds3) ∧ V.cell? ⟨wr.heap.size, 3, none⟩ = some (.slice aks3 ks3.length cks3)))
            (first | assumption | exact HSD.out | exact HS.out _ hbS hcS hkS | go_keep)
            (first
              | (go_at_call 98; (with_reducible refine (HBI.out _).mono ?_); rintro e V1 ⟨rfl, hq1⟩; have hu := ‹Below w0.heap.size w0 _ ∧ _ ∧ _ ∧ _›; have hbS := hu.1.trans (hq1.mono hu.1.size); have hcS := HK1.out _ _ hq1 hu.2.1; have hkS := HK2.out _ _ hq1 hu.2.2.1; clear hu; have HOD := hid (ownsRow.below HOD.out hq1); have HQ1 := hid hq1)
              | (go_at_call 100; (with_reducible refine (HTR.out _).mono ?_); rintro e V2 ⟨rfl, rfl⟩)
              | (go_at_call 108; (with_reducible refine (HC.out _ _ ?_ ?_).mono ?_); (exact (‹Below w0.heap.size w0 _ ∧ _›).1); (exact HOD.out); rintro e V3 ⟨v3', rfl, hgn3⟩; have HG3 := hid hgn3; have hu := ‹Below w0.heap.size w0 _ ∧ _ ∧ _ ∧ _›; have hbS := hgn3.2.1; have hcS := hgn3.2.2 _ _ _ _ hu.2.1 (by decide); have hkS := hgn3.2.2 _ _ _ _ hu.2.2.1 (by decide); clear hgn3 hu))
          clear hbd hcd hkd hs1 hs2 s3 s4 s5 s6 s7 s8 s9 s10 d0 d1 d2 d3 hbS hcS hkS hq1
          go_wp2_with fail
          go_roundw
          case rel => exact ⟨j + 1, by omega, by go_num, by rw [HT.out]; exact ((HGN.out.below (((Below.refl wr.heap.size wr).alloc (Nat.le_refl _) _).drew)).below HQ1.out).step HG3.out⟩
          case measure => simp [intOf]; omega
        case neg =>
          rw [List.take_of_length_le (by omega)] at HGN
          go_wp2_with fail
          go_ret
          rw [HF.out]
          exact GrowPost.from ⟨_, rfl, HGN.out⟩ (KeepT.of_below ((Below.refl _ _).alloc (Nat.le_refl _) _))
    case neg =>
      have g6 : (k1 == 6) = false := by simp [h6]
      rw [if_neg h6] at HF
      clear h6
      go_enter Try.func108, Try.ntmps108
      go_wp2_with fail
      go_loopw [3, 9, 10, 27] (fun v _ _ n wr => ∃ (j : Nat), j ≤ ks1.length ∧ n = .int .i64 j ∧ GrowNow 2 w0 (w.alloc (.cells #[.int .i64 k1, .int .i64 v1, .slice ads1 ds1.length cds1, .slice aks1 ks1.length cks1] 30)) (xs ++ Co.levs k1 0 (ks1.take j) i (l)) v wr) (fun _ _ _ n _ => ks1.length - (intOf n).toNat)
      case atStart => exact ⟨0, by omega, rfl, by simpa [Co.levs] using HO.out.alloc _, HB0.out.alloc hsz _, KeepT.refl _ _⟩
      case round =>
        obtain ⟨j, hj, rfl, hgn⟩ := hrel
        have hb := hgn.2.1
        have HGN := hid hgn
        have hcb := hgn.2.2 w.heap.size #[.int .i64 k1, .int .i64 v1, .slice ads1 ds1.length cds1, .slice aks1 ks1.length cks1] 30 (0, 0) (heap_alloc_new w _) (by decide)
        have hcl := (Array.getElem?_eq_some_iff.1 hcb).1
        have HBW := hid hb
        have HCB := hid hcb
        clear hgn hb hcb
        by_cases hlt : j < ks1.length
        case pos =>
          obtain ⟨b, o, rfl, hbl, hall⟩ := H4.out (by omega)
          obtain ⟨t, ht⟩ : ∃ t, ks1[j]? = some t := ⟨_, List.getElem?_eq_getElem hlt⟩
          obtain ⟨k3, v3, ds3, ks3⟩ := t
          obtain ⟨ads3, cds3, aks3, cks3, q0, q1, q2, q3, hrk⟩ := hall j k3 v3 ds3 ks3 ht
          clear hall H4
          have hbg := Co.bulk_get ks1 j _ ht
          have HT := hid (Co.levs_take k1 0 ks1 i (l) j _ ht)
          have hll := Co.levs_len k1 0 (ks1.take j) i (l)
          have hbt : Co.bulks (ks1.take j) + 1 + Co.bulk (.mk k3 v3 ds3 ks3) ≤ Co.bulks ks1 := by have h1 := Co.bulks_take ks1 j _ ht; have h2 := Co.bulks_le ks1 (j + 1); omega
          have hbb := bindsOf_le k1 j
          have hxl : (xs ++ Co.levs k1 0 (ks1.take j) i (l)).length + 1 + Co.bulk (.mk k3 v3 ds3 ks3) ≤ 4194304 := by have := HK.out; have := HXM.out; rw [List.length_append]; omega
          have hgk := Co.goods_get ks1 j _ HG.out ht
          have hc := fun v W hW ho => IH.out w0 k3 v3 ds3 ks3 ads3 cds3 aks3 cks3 (i + bindsOf k1 j) (l) v (xs ++ Co.levs k1 0 (ks1.take j) i (l)) W (by have := HK.out; have := HN.out; omega) (by omega) (by have := HK.out; have := HIM.out; omega) (by omega) (by have := HK.out; have := HLM.out; omega) hxl hgk hrk hW ho
          rw [Nat.zero_add] at HT
          rw [List.append_assoc] at hc
          have hcv := fun W => impl_binds k1 v1 ds1 ks1 ads1 cds1 (some ⟨b, o, none⟩) cks1 j W
          generalize hbq : bindsOf k1 j = bb at hc hbb HT hcv
          have htr := fun W => impl_truth false W
          simp only [Bool.false_eq_true, if_false] at htr
          have d0 := (HBW.out.cell (p := ⟨b, o + j * 4, none⟩) hbl).trans q0
          have d1 := (HBW.out.cell (p := ⟨b, o + j * 4 + 1, none⟩) hbl).trans q1
          have d2 := (HBW.out.cell (p := ⟨b, o + j * 4 + 2, none⟩) hbl).trans q2
          have d3 := (HBW.out.cell (p := ⟨b, o + j * 4 + 3, none⟩) hbl).trans q3
          have HC := hid hc
          have HBI := hid hcv
          have HTR := hid htr
          have hbi : bb ≤ 1 := hbb.2
          have hb0' : 0 ≤ bb := hbb.1
          clear hc hcv htr hrk q0 q1 q2 q3 ht hll hbt hxl hbq hbb hbg hgk
          have hS : ∀ V : World, Below w0.heap.size w0 V → V.heap[w.heap.size]? = some (.cells #[.int .i64 k1, .int .i64 v1, .slice ads1 ds1.length cds1, .slice (some ⟨b, o, none⟩) ks1.length cks1] 30) → V.heap[wr.heap.size]? = some (.cells #[.int .i64 k3, .int .i64 v3, .slice ads3 ds3.length cds3, .slice aks3 ks3.length cks3] 30) → (Below w0.heap.size w0 V ∧ V.heap[w.heap.size]? = some (.cells #[.int .i64 k1, .int .i64 v1, .slice ads1 ds1.length cds1, .slice (some ⟨b, o, none⟩) ks1.length cks1] 30) ∧ V.heap[wr.heap.size]? = some (.cells #[.int .i64 k3, .int .i64 v3, .slice ads3 ds3.length cds3, .slice aks3 ks3.length cks3] 30) ∧ V.cell? ⟨w.heap.size, 0, none⟩ = some (.int .i64 k1) ∧ V.cell? ⟨w.heap.size, 1, none⟩ = some (.int .i64 v1) ∧ V.cell? ⟨w.heap.size, 2, none⟩ = some (.slice ads1 ds1.length cds1) ∧ V.cell? ⟨w.heap.size, 3, none⟩ = some (.slice (some ⟨b, o, none⟩) ks1.length cks1) ∧ V.cell? ⟨wr.heap.size, 0, none⟩ = some (.int .i64 k3) ∧ V.cell? ⟨wr.heap.size, 1, none⟩ = some (.int .i64 v3) ∧ V.cell? ⟨wr.heap.size, 2, none⟩ = some (.slice ads3 ds3.length cds3) ∧ V.cell? ⟨wr.heap.size, 3, none⟩ = some (.slice aks3 ks3.length cks3)) :=
            fun V h1 h2 h3 => ⟨h1, h2, h3, heap_cell h2 rfl, heap_cell h2 rfl, heap_cell h2 rfl, heap_cell h2 rfl, heap_cell h3 rfl, heap_cell h3 rfl, heap_cell h3 rfl, heap_cell h3 rfl⟩
          have HS := hid hS
          have hK1 : ∀ V V' : World, Below V.heap.size V V' → V.heap[w.heap.size]? = some (.cells #[.int .i64 k1, .int .i64 v1, .slice ads1 ds1.length cds1, .slice (some ⟨b, o, none⟩) ks1.length cks1] 30) → V'.heap[w.heap.size]? = some (.cells #[.int .i64 k1, .int .i64 v1, .slice ads1 ds1.length cds1, .slice (some ⟨b, o, none⟩) ks1.length cks1] 30) := fun V V' h1 h2 => (h1.block _ (Array.getElem?_eq_some_iff.1 h2).1).trans h2
          have hK2 : ∀ V V' : World, Below V.heap.size V V' → V.heap[wr.heap.size]? = some (.cells #[.int .i64 k3, .int .i64 v3, .slice ads3 ds3.length cds3, .slice aks3 ks3.length cks3] 30) → V'.heap[wr.heap.size]? = some (.cells #[.int .i64 k3, .int .i64 v3, .slice ads3 ds3.length cds3, .slice aks3 ks3.length cks3] 30) := fun V V' h1 h2 => (h1.block _ (Array.getElem?_eq_some_iff.1 h2).1).trans h2
          have HK1 := hid hK1
          have HK2 := hid hK2
          have hbd : Below w0.heap.size w0 (wr.alloc (.cells #[.int .i64 k3, .int .i64 v3, .slice ads3 ds3.length cds3, .slice aks3 ks3.length cks3] 30)).drew := (HBW.out.alloc HBW.out.size _).drew
          have hcd : (wr.alloc (.cells #[.int .i64 k3, .int .i64 v3, .slice ads3 ds3.length cds3, .slice aks3 ks3.length cks3] 30)).drew.heap[w.heap.size]? = some (.cells #[.int .i64 k1, .int .i64 v1, .slice ads1 ds1.length cds1, .slice (some ⟨b, o, none⟩) ks1.length cks1] 30) := (Below.heap_alloc wr (.cells #[.int .i64 k3, .int .i64 v3, .slice ads3 ds3.length cds3, .slice aks3 ks3.length cks3] 30) _ hcl).trans HCB.out
          have hkd : (wr.alloc (.cells #[.int .i64 k3, .int .i64 v3, .slice ads3 ds3.length cds3, .slice aks3 ks3.length cks3] 30)).drew.heap[wr.heap.size]? = some (.cells #[.int .i64 k3, .int .i64 v3, .slice ads3 ds3.length cds3, .slice aks3 ks3.length cks3] 30) := heap_alloc_new wr _
          have hod := ownsRow.below HGN.out.1 (((Below.refl wr.heap.size wr).alloc (Nat.le_refl _) (.cells #[.int .i64 k3, .int .i64 v3, .slice ads3 ds3.length cds3, .slice aks3 ks3.length cks3] 30)).drew)
          have HSD := hid (hS _ hbd hcd hkd)
          have HOD := hid hod
          obtain ⟨-, -, -, s3, s4, s5, s6, s7, s8, s9, s10⟩ := hS _ hbd hcd hkd
          clear hS hK1 hK2 hod
          have hs1 : IntKind.i64.wrap (i + bb) = i + bb := IntWalk.i64_in _ (by omega)
          have hs2 : IntKind.i64.wrap (l) = l := IntWalk.i64_in _ (by omega)
          go_wp2_with fail
          go_region_held3 (fun V => (Below w0.heap.size w0 V ∧ V.heap[w.heap.size]? = some (.cells #[.int .i64 k1, .int .i64 v1, .slice ads1 ds1.length cds1, .slice (some ⟨b, o, none⟩) ks1.length cks1] 30) ∧ V.heap[wr.heap.size]? = some (.cells #[.int .i64 k3, .int .i64 v3, .slice ads3 ds3.length cds3, .slice aks3 ks3.length cks3] 30) ∧ V.cell? ⟨w.heap.size, 0, none⟩ = some (.int .i64 k1) ∧ V.cell? ⟨w.heap.size, 1, none⟩ = some (.int .i64 v1) ∧ V.cell? ⟨w.heap.size, 2, none⟩ = some (.slice ads1 ds1.length cds1) ∧ V.cell? ⟨w.heap.size, 3, none⟩ = some (.slice (some ⟨b, o, none⟩) ks1.length cks1) ∧ V.cell? ⟨wr.heap.size, 0, none⟩ = some (.int .i64 k3) ∧ V.cell? ⟨wr.heap.size, 1, none⟩ = some (.int .i64 v3) ∧ V.cell? ⟨wr.heap.size, 2, none⟩ = some (.slice ads3 ds3.length cds3) ∧ V.cell? ⟨wr.heap.size, 3, none⟩ = some (.slice aks3 ks3.length cks3)))
            (first | assumption | exact HSD.out | exact HS.out _ hbS hcS hkS | go_keep)
            (first
              | (go_at_call 98; (with_reducible refine (HBI.out _).mono ?_); rintro e V1 ⟨rfl, hq1⟩; have hu := ‹Below w0.heap.size w0 _ ∧ _ ∧ _ ∧ _›; have hbS := hu.1.trans (hq1.mono hu.1.size); have hcS := HK1.out _ _ hq1 hu.2.1; have hkS := HK2.out _ _ hq1 hu.2.2.1; clear hu; have HOD := hid (ownsRow.below HOD.out hq1); have HQ1 := hid hq1)
              | (go_at_call 100; (with_reducible refine (HTR.out _).mono ?_); rintro e V2 ⟨rfl, rfl⟩)
              | (go_at_call 108; (with_reducible refine (HC.out _ _ ?_ ?_).mono ?_); (exact (‹Below w0.heap.size w0 _ ∧ _›).1); (exact HOD.out); rintro e V3 ⟨v3', rfl, hgn3⟩; have HG3 := hid hgn3; have hu := ‹Below w0.heap.size w0 _ ∧ _ ∧ _ ∧ _›; have hbS := hgn3.2.1; have hcS := hgn3.2.2 _ _ _ _ hu.2.1 (by decide); have hkS := hgn3.2.2 _ _ _ _ hu.2.2.1 (by decide); clear hgn3 hu))
          clear hbd hcd hkd hs1 hs2 s3 s4 s5 s6 s7 s8 s9 s10 d0 d1 d2 d3 hbS hcS hkS hq1
          go_wp2_with fail
          go_roundw
          case rel => exact ⟨j + 1, by omega, by go_num, by rw [HT.out]; exact ((HGN.out.below (((Below.refl wr.heap.size wr).alloc (Nat.le_refl _) _).drew)).below HQ1.out).step HG3.out⟩
          case measure => simp [intOf]; omega
        case neg =>
          rw [List.take_of_length_le (by omega)] at HGN
          go_wp2_with fail
          go_ret
          rw [HF.out]
          exact GrowPost.from ⟨_, rfl, HGN.out⟩ (KeepT.of_below ((Below.refl _ _).alloc (Nat.le_refl _) _))
theorem lvi_all : ∀ N, LviW N
  | 0 => fun _ _ _ _ _ _ _ _ _ _ _ _ _ _ _  h => absurd h (by omega)
  | N + 1 => lvi_step N (lvi_all N)
end Go.Proofs.Ytgbiefjokohkkaa
