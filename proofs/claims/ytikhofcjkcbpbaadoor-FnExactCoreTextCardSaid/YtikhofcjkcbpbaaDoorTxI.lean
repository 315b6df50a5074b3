/- Walks: the text of a core in the program. No condition. -/
import Derived.Test.YtikhofcjkcbpbaaDoorTxD
namespace Go.Proofs.YtikhofcjkcbpbaaDoor
open Go.ChangeShapes Go.WideShapes Go.ChangeAt Go.RowKit Go.BigFrame
open Go.Sort (grow)
set_option linter.unusedVariables false

def ImTxW (N : Nat) : Prop := ∀ (k1 : Int) (v1 : Int) (ds1 : List Int) (ks1 : List Co) (ads1 : Option Addr) (cds1 : Nat) (aks1 : Option Addr) (cks1 : Nat) (w : World), Pow w → Co.bulk (Co.mk k1 v1 ds1 ks1) < N → Co.bulk (Co.mk k1 v1 ds1 ks1) ≤ 1048576 → Co.good (Co.mk k1 v1 ds1 ks1) = true → RdS w (Co.d (Co.mk k1 v1 ds1 ks1)) [.int .i64 k1, .int .i64 v1, .slice ads1 ds1.length cds1, .slice aks1 ks1.length cks1] →
  Calls Tryd.prog 33 #[.agg #[.int .i64 k1, .int .i64 v1, .slice ads1 ds1.length cds1, .slice aks1 ks1.length cks1]] w fun e w' => e = .returned (.string (Co.text (Co.mk k1 v1 ds1 ks1))) ∧ Below w.heap.size w w'
/-- A kid's text is read in the list. -/
theorem OwnStr.at {w : World} {B : Nat} {v : Value} {xs : List ByteArray} (h : OwnStr w B v xs) (hn : xs ≠ []) : ∃ g c, v = .slice (some ⟨g, 0, none⟩) xs.length c ∧ ∀ (j : Nat) x, xs[j]? = some x → w.cell? ⟨g, j, none⟩ = some (.string x) := by
  rcases h.2 with ⟨rfl, hz⟩ | ⟨g, cap, cur, rfl, -⟩
  · exact absurd (List.length_eq_zero_iff.1 hz) hn
  · refine ⟨g, cap, rfl, fun j x hx => ?_⟩
    have := OwnStr.cells h j x hx
    rwa [Nat.zero_add] at this
set_option maxRecDepth 100000 in
set_option maxHeartbeats 4000000 in
theorem impl_text_step (N : Nat) (ih : ImTxW N) : ImTxW (N + 1) := by
  intro k1 v1 ds1 ks1 ads1 cds1 aks1 cks1 w hp hN hM hg hr
  have hbk : Co.bulk (Co.mk k1 v1 ds1 ks1) = In.bulks ds1 + Co.bulks ks1 := rfl
  obtain ⟨_, ⟨lov, hiv⟩, hds, hks⟩ := hr.fCo
  obtain ⟨_, _, e, h2, h3, h4⟩ := hks.eCo
  simp only [Value.slice.injEq, true_and] at e
  obtain ⟨rfl, rfl⟩ := e
  simp only [Co.good, Bool.and_eq_true] at hg
  obtain ⟨hok, hgs⟩ := hg
  obtain ⟨hlv, hcd⟩ := okCo_val hok
  have hlb := Co.bulks_length ks1
  have hlk : ks1.length ≤ 3 := by rcases okCo_cases hok with h | h | h | h | h <;> omega
  have hzk : szs (Co.texts ks1) ≤ 67108928 := by have := Co.texts_le ks1 hgs; omega
  have HX0 := hid ((Boxes.nil w).alloc #[.int .i64 k1, .int .i64 v1, .slice ads1 ds1.length cds1, .slice aks1 ks1.length cks1] 35 (0, 0))
  have hB : Below w.heap.size w (w.alloc (.cells #[.int .i64 k1, .int .i64 v1, .slice ads1 ds1.length cds1, .slice aks1 ks1.length cks1] 35)) := (Below.refl w.heap.size w).alloc (Nat.le_refl _) _
  have HBX := hid hB
  have hx0 := heap_alloc_new w (.cells #[.int .i64 k1, .int .i64 v1, .slice ads1 ds1.length cds1, .slice aks1 ks1.length cks1] 35)
  have HXX := hid hx0
  have HSZ0 := hid (World.size_alloc w (.cells #[.int .i64 k1, .int .i64 v1, .slice ads1 ds1.length cds1, .slice aks1 ks1.length cks1] 35))
  have H4 := hid h4
  have IH := hid ih
  have HBK := hid hbk
  have HN := hid hN
  have HM := hid hM
  have HGS := hid hgs
  have HP := hid hp
  have HDS := hid hds
  have HOK := hid hok
  have HCD := hid hcd
  have HLV := hid hlv
  have HR0 := HX0.out.at 0 3 rfl rfl
  clear hks h2 h3 hr h4 ih hbk hN hM hgs hp hB hx0 hds hok hcd hlv HX0
  go_enter Tryd.func33, Tryd.ntmps33
  go_wp2_with fail
  clear HR0
  go_loopw [3, 9] (fun t i wr => ∃ (j : Nat) (v0 : Value), j ≤ ks1.length ∧ i = .int .i64 j ∧ v0 = t ∧ Hid (OwnStr wr (w.heap.size + 1) v0 (Co.texts (ks1.take j))) ∧ Hid (Below w.heap.size w wr) ∧ Hid (w.heap.size + 1 ≤ wr.heap.size) ∧ Hid (wr.heap[w.heap.size]? = some (.cells #[.int .i64 k1, .int .i64 v1, .slice ads1 ds1.length cds1, .slice aks1 ks1.length cks1] 35 (0, 0)))) (fun _ i _ => ks1.length - (intOf i).toNat)
  case atStart => exact ⟨0, .slice none 0 0, by omega, rfl, rfl, World.ownsRow_nil _ _ _ _, HBX, hid (Nat.le_of_eq HSZ0.out.symm), HXX⟩
  case round =>
    obtain ⟨j, v0, hj, rfl, rfl, HO, HB, HZ, HX⟩ := hrel
    by_cases hlt : j < ks1.length
    case pos =>
      obtain ⟨b, o, rfl, hbl, hall⟩ := H4.out (by omega)
      obtain ⟨t, ht⟩ : ∃ t, ks1[j]? = some t := ⟨_, List.getElem?_eq_getElem hlt⟩
      obtain ⟨k3, v3, ds3, ks3⟩ := t
      obtain ⟨ads3, cds3, aks3, cks3, q0, q1, q2, q3, hrk⟩ := hall j k3 v3 ds3 ks3 ht
      clear hall H4
      have d0 := (HB.out.cell (p := ⟨b, o + j * 4, none⟩) hbl).trans q0
      have d1 := (HB.out.cell (p := ⟨b, o + j * 4 + 1, none⟩) hbl).trans q1
      have d2 := (HB.out.cell (p := ⟨b, o + j * 4 + 2, none⟩) hbl).trans q2
      have d3 := (HB.out.cell (p := ⟨b, o + j * 4 + 3, none⟩) hbl).trans q3
      have hbg := Co.bulk_get ks1 j _ ht
      have hgk := Co.goods_get ks1 j _ HGS.out ht
      have hbk1 : Below wr.heap.size wr (wr.alloc (.cells #[.int .i64 k3, .int .i64 v3, .slice ads3 ds3.length cds3, .slice aks3 ks3.length cks3] 35)) := (Below.refl _ _).alloc (Nat.le_refl _) _
      have HBK1 := hid (HB.out.trans (hbk1.mono HB.out.size))
      have HO1 := hid (ownsRow.below HO.out hbk1)
      have HX1 := hid ((hbk1.block _ (Array.getElem?_eq_some_iff.1 HX.out).1).trans HX.out)
      have HZ1 := hid (Nat.le_trans HZ.out hbk1.size)
      have HC := hid (IH.out k3 v3 ds3 ks3 ads3 cds3 aks3 cks3 (wr.alloc (.cells #[.int .i64 k3, .int .i64 v3, .slice ads3 ds3.length cds3, .slice aks3 ks3.length cks3] 35)) (HP.out.below HBK1.out) (by have := HBK.out; have := HN.out; omega) (by have := HBK.out; have := HM.out; omega) hgk (hrk.below HBK1.out))
      have HSN := hid (Co.texts_snoc ks1 j _ ht)
      generalize hy : Co.text (.mk k3 v3 ds3 ks3) = y at HC HSN
      have g0 := heap_cell (heap_alloc_new wr (.cells #[.int .i64 k3, .int .i64 v3, .slice ads3 ds3.length cds3, .slice aks3 ks3.length cks3] 35)) (j := 0) rfl
      have g1 := heap_cell (heap_alloc_new wr (.cells #[.int .i64 k3, .int .i64 v3, .slice ads3 ds3.length cds3, .slice aks3 ks3.length cks3] 35)) (j := 1) rfl
      have g2 := heap_cell (heap_alloc_new wr (.cells #[.int .i64 k3, .int .i64 v3, .slice ads3 ds3.length cds3, .slice aks3 ks3.length cks3] 35)) (j := 2) rfl
      have g3 := heap_cell (heap_alloc_new wr (.cells #[.int .i64 k3, .int .i64 v3, .slice ads3 ds3.length cds3, .slice aks3 ks3.length cks3] 35)) (j := 3) rfl
      have HLJ := hid (show (Co.texts (ks1.take j)).length ≤ 3 by rw [Co.texts_length, List.length_take]; omega)
      clear ht hrk q0 q1 q2 q3 hbg hgk hbk1 hy
      go_wp2_with fail
      refine HC.out.mono ?_
      rintro e w1 ⟨rfl, hb⟩
      have HOA := hid (ownsRow.below HO1.out hb)
      have HBA := hid (HBK1.out.trans (hb.mono HBK1.out.size))
      have HXA := hid ((hb.block _ (Array.getElem?_eq_some_iff.1 HX1.out).1).trans HX1.out)
      have HZA := hid (Nat.le_trans HZ1.out hb.size)
      clear hb d0 d1 d2 d3 g0 g1 g2 g3
      go_wp2_with (at_builtin; refine wpList_append_s1 rfl _ _ rfl (w.heap.size + 1) _ (Co.texts (ks1.take j)) y ⟨w1.heap.size, 0, none⟩ rfl rfl (HOA.out.alloc _) (one_new _ _ _) ?c1 ?c2 ?_)
      case c1 => have := HLJ.out; omega
      case c2 => have := HZA.out; simp; omega
      intro v2 w2 ho2 hg2
      have HO2 := hid (show OwnStr w2 (w.heap.size + 1) v2 (Co.texts (ks1.take j) ++ [y]) by simpa [OwnStr] using ho2)
      have HB2 := hid ((HBA.out.alloc HBA.out.size (.cells #[.string y] 9)).grown hg2 (by have := HZA.out; simp; omega) fun k hk => by have := ((HOA.out.alloc (.cells #[.string y] 9)).lt k hk).1; omega)
      have HZ2 := hid (show w.heap.size + 1 ≤ w2.heap.size by have h1 := hg2.size; have h2 := HZA.out; simp at h1; omega)
      have HX2 := hid (show w2.heap[w.heap.size]? = some (.cells #[.int .i64 k1, .int .i64 v1, .slice ads1 ds1.length cds1, .slice (some ⟨b, o, none⟩) ks1.length cks1] 35 (0, 0)) by
        have hal : Below w1.heap.size w1 (w1.alloc (.cells #[.string y] 9)) := (Below.refl _ _).alloc (Nat.le_refl _) _
        have hx := (hal.block _ (Array.getElem?_eq_some_iff.1 HXA.out).1).trans HXA.out
        exact (hg2.block _ (Array.getElem?_eq_some_iff.1 hx).1 (fun e => by have := ((HOA.out.alloc (.cells #[.string y] 9)).lt _ e.symm).1; omega)).trans hx)
      clear ho2 hg2
      go_wp2_with fail
      go_roundw
      case rel => exact ⟨j + 1, v2, by omega, by go_num, rfl, by rw [HSN.out]; exact HO2.out, HB2, HZ2, HX2⟩
      case measure => first | (simp [intOf]; done) | (simp [intOf]; omega)
    case neg =>
      have hzj : ks1.take j = ks1 := List.take_of_length_le (by omega)
      rw [hzj] at HO
      have b0 := heap_cell HX.out (j := 0) rfl
      have b1 := heap_cell HX.out (j := 1) rfl
      have b2 := heap_cell HX.out (j := 2) rfl
      have HZK := hid hzk
      clear hzj H4 IH HBK HN HM HSZ0 HBX HXX hzk
      rcases okCo_cases HOK.out with ⟨hk, hn⟩ | ⟨hk, hn⟩ | ⟨hk, hn⟩ | ⟨rfl, hn⟩ | ⟨hk, hn, hdl⟩
      · rcases hk with rfl | rfl | rfl
        · clear hn
          have HT := hid (show Co.text (Co.mk 1 v1 ds1 ks1) = ((⟨#[35]⟩ : ByteArray) ++ (⟨(Lib.itoa v1).toArray⟩ : ByteArray)) by simp [Co.text, nodeTxt, dec])
          have HC := hid (impl_Decimal v1 lov hiv wr (HP.out.below HB.out))
          have hsz : (⟨(Lib.itoa v1).toArray⟩ : ByteArray).size ≤ 11 := dec_size HLV.out
          have le1 : (⟨#[35]⟩ : ByteArray).size = 1 := rfl
          go_wp2_with fail
          refine HC.out.mono ?_
          rintro e w1 ⟨rfl, hb⟩
          have HB1 := hid (HB.out.trans (hb.mono HB.out.size))
          clear hb
          go_wp2_with fail
          go_ret
          exact ret_str2 HT.out.symm HB1.out
        · clear hn
          have HT := hid (show Co.text (Co.mk 2 v1 ds1 ks1) = (⟨(Lib.itoa v1).toArray⟩ : ByteArray) by simp [Co.text, nodeTxt, dec])
          have HC := hid (impl_Decimal v1 lov hiv wr (HP.out.below HB.out))
          have hsz : (⟨(Lib.itoa v1).toArray⟩ : ByteArray).size ≤ 11 := dec_size HLV.out
          go_wp2_with fail
          refine HC.out.mono ?_
          rintro e w1 ⟨rfl, hb⟩
          have HB1 := hid (HB.out.trans (hb.mono HB.out.size))
          clear hb
          go_wp2_with fail
          go_ret
          exact ret_str2 HT.out.symm HB1.out
        · clear hn
          have HT := hid (show Co.text (Co.mk 11 v1 ds1 ks1) = ((⟨#[64]⟩ : ByteArray) ++ (⟨(Lib.itoa v1).toArray⟩ : ByteArray)) by simp [Co.text, nodeTxt, dec])
          have HC := hid (impl_Decimal v1 lov hiv wr (HP.out.below HB.out))
          have hsz : (⟨(Lib.itoa v1).toArray⟩ : ByteArray).size ≤ 11 := dec_size HLV.out
          have le1 : (⟨#[64]⟩ : ByteArray).size = 1 := rfl
          go_wp2_with fail
          refine HC.out.mono ?_
          rintro e w1 ⟨rfl, hb⟩
          have HB1 := hid (HB.out.trans (hb.mono HB.out.size))
          clear hb
          go_wp2_with fail
          go_ret
          exact ret_str2 HT.out.symm HB1.out
      · rcases hk with rfl | rfl | rfl
        · obtain ⟨x, y, hxs⟩ : ∃ x y, Co.texts ks1 = [x, y] := by
            have hl := Co.texts_length ks1
            rw [hn] at hl
            match Co.texts ks1, hl with
            | [x, y], _ => exact ⟨x, y, rfl⟩
          have hzz0 := HZK.out
          rw [hxs] at HO hzz0
          simp only [szs] at hzz0
          clear hn
          obtain ⟨g, c, rfl, hcell⟩ : ∃ g c, v0 = .slice (some ⟨g, 0, none⟩) 2 c ∧ ∀ (j : Nat) x', [x, y][j]? = some x' → wr.cell? ⟨g, j, none⟩ = some (.string x') := OwnStr.at HO.out (by simp)
          have c0 := cell_regrown (hcell 0 x rfl)
          have c1 := cell_regrown (hcell 1 y rfl)
          have HT := hid (show Co.text (Co.mk 3 v1 ds1 ks1) = (((((((⟨#[40]⟩ : ByteArray) ++ x) ++ (⟨#[32]⟩ : ByteArray)) ++ opText v1) ++ (⟨#[32]⟩ : ByteArray)) ++ y) ++ (⟨#[41]⟩ : ByteArray)) by rw [Co.text, hxs]; rfl)
          have r1 := cell_regrown b1
          have r2 := cell_regrown b2
          have hc3 := fun d os => Calls.regrown_of ((impl_OperatorText v1 (grow (redrawn wr d) os)).mono fun e w' (h : _ ∧ _ = w') => (⟨h.1, by rw [← h.2]; exact Below.refl _ _⟩ : _ ∧ Below (grow (redrawn wr d) os).heap.size (grow (redrawn wr d) os) w'))
          have hzz := opText_le v1
          generalize hz : opText v1 = z at hc3 hzz HT
          have HC3 := hid hc3
          clear hc3 hz
          have le1 : (⟨#[40]⟩ : ByteArray).size = 1 := rfl
          have le2 : (⟨#[32]⟩ : ByteArray).size = 1 := rfl
          have le3 : (⟨#[41]⟩ : ByteArray).size = 1 := rfl
          have ce1 : ((⟨#[40]⟩ : ByteArray) ++ x).size = 1 + x.size := by rw [ByteArray.size_append, le1]
          have ce2 : (((⟨#[40]⟩ : ByteArray) ++ x) ++ (⟨#[32]⟩ : ByteArray)).size = 1 + x.size + 1 := by rw [ByteArray.size_append, ce1, le2]
          have ce3 : ((((⟨#[40]⟩ : ByteArray) ++ x) ++ (⟨#[32]⟩ : ByteArray)) ++ z).size = 1 + x.size + 1 + z.size := by rw [ByteArray.size_append, ce2]
          have ce4 : (((((⟨#[40]⟩ : ByteArray) ++ x) ++ (⟨#[32]⟩ : ByteArray)) ++ z) ++ (⟨#[32]⟩ : ByteArray)).size = 1 + x.size + 1 + z.size + 1 := by rw [ByteArray.size_append, ce3, le2]
          have ce5 : ((((((⟨#[40]⟩ : ByteArray) ++ x) ++ (⟨#[32]⟩ : ByteArray)) ++ z) ++ (⟨#[32]⟩ : ByteArray)) ++ y).size = 1 + x.size + 1 + z.size + 1 + y.size := by rw [ByteArray.size_append, ce4]
          clear hcell hxs b0 b1 b2
          have b0 := heap_cell HX.out (j := 0) rfl
          go_wp2_with fail
          clear b0
          refine wp_region_quiet_below (by kernel_rfl) (by kernel_rfl) ?_
          repeat (go_big_quiet_step (with_reducible exact HC3.out _ _))
          refine wpQuiet_nil ?_
          intro _ hw'
          obtain ⟨⟨dq, osq⟩, hw''⟩ := hw'
          subst hw''
          have HB1 := hid (HB.out.trans ((below_regrown wr dq osq).mono HB.out.size))
          clear c0 c1 r1 r2 HC3
          go_wp2_with fail
          go_ret
          exact ret_str2 HT.out.symm HB1.out
        · obtain ⟨x, y, hxs⟩ : ∃ x y, Co.texts ks1 = [x, y] := by
            have hl := Co.texts_length ks1
            rw [hn] at hl
            match Co.texts ks1, hl with
            | [x, y], _ => exact ⟨x, y, rfl⟩
          have hzz0 := HZK.out
          rw [hxs] at HO hzz0
          simp only [szs] at hzz0
          clear hn
          obtain ⟨g, c, rfl, hcell⟩ : ∃ g c, v0 = .slice (some ⟨g, 0, none⟩) 2 c ∧ ∀ (j : Nat) x', [x, y][j]? = some x' → wr.cell? ⟨g, j, none⟩ = some (.string x') := OwnStr.at HO.out (by simp)
          have c0 := cell_regrown (hcell 0 x rfl)
          have c1 := cell_regrown (hcell 1 y rfl)
          have HT := hid (show Co.text (Co.mk 5 v1 ds1 ks1) = (((((⟨#[40]⟩ : ByteArray) ++ x) ++ (⟨#[32]⟩ : ByteArray)) ++ y) ++ (⟨#[41]⟩ : ByteArray)) by rw [Co.text, hxs]; rfl)
          have r1 := cell_regrown b1
          have r2 := cell_regrown b2
          have le1 : (⟨#[40]⟩ : ByteArray).size = 1 := rfl
          have le2 : (⟨#[32]⟩ : ByteArray).size = 1 := rfl
          have le3 : (⟨#[41]⟩ : ByteArray).size = 1 := rfl
          have ce1 : ((⟨#[40]⟩ : ByteArray) ++ x).size = 1 + x.size := by rw [ByteArray.size_append, le1]
          have ce2 : (((⟨#[40]⟩ : ByteArray) ++ x) ++ (⟨#[32]⟩ : ByteArray)).size = 1 + x.size + 1 := by rw [ByteArray.size_append, ce1, le2]
          have ce3 : ((((⟨#[40]⟩ : ByteArray) ++ x) ++ (⟨#[32]⟩ : ByteArray)) ++ y).size = 1 + x.size + 1 + y.size := by rw [ByteArray.size_append, ce2]
          clear hcell hxs b0 b1 b2
          have b0 := heap_cell HX.out (j := 0) rfl
          go_wp2_with fail
          clear b0
          refine wp_region_quiet_below (by kernel_rfl) (by kernel_rfl) ?_
          repeat (go_big_quiet_step (fail))
          refine wpQuiet_nil ?_
          intro _ hw'
          obtain ⟨⟨dq, osq⟩, hw''⟩ := hw'
          subst hw''
          have HB1 := hid (HB.out.trans ((below_regrown wr dq osq).mono HB.out.size))
          clear c0 c1 r1 r2
          go_wp2_with fail
          go_ret
          exact ret_str2 HT.out.symm HB1.out
        · obtain ⟨x, y, hxs⟩ : ∃ x y, Co.texts ks1 = [x, y] := by
            have hl := Co.texts_length ks1
            rw [hn] at hl
            match Co.texts ks1, hl with
            | [x, y], _ => exact ⟨x, y, rfl⟩
          have hzz0 := HZK.out
          rw [hxs] at HO hzz0
          simp only [szs] at hzz0
          clear hn
          obtain ⟨g, c, rfl, hcell⟩ : ∃ g c, v0 = .slice (some ⟨g, 0, none⟩) 2 c ∧ ∀ (j : Nat) x', [x, y][j]? = some x' → wr.cell? ⟨g, j, none⟩ = some (.string x') := OwnStr.at HO.out (by simp)
          have c0 := cell_regrown (hcell 0 x rfl)
          have c1 := cell_regrown (hcell 1 y rfl)
          have HT := hid (show Co.text (Co.mk 7 v1 ds1 ks1) = (((((⟨#[40, 108, 101, 116, 32]⟩ : ByteArray) ++ x) ++ (⟨#[32, 105, 110, 32]⟩ : ByteArray)) ++ y) ++ (⟨#[41]⟩ : ByteArray)) by rw [Co.text, hxs]; rfl)
          have r1 := cell_regrown b1
          have r2 := cell_regrown b2
          have le1 : (⟨#[40, 108, 101, 116, 32]⟩ : ByteArray).size = 5 := rfl
          have le2 : (⟨#[32, 105, 110, 32]⟩ : ByteArray).size = 4 := rfl
          have le3 : (⟨#[41]⟩ : ByteArray).size = 1 := rfl
          have ce1 : ((⟨#[40, 108, 101, 116, 32]⟩ : ByteArray) ++ x).size = 5 + x.size := by rw [ByteArray.size_append, le1]
          have ce2 : (((⟨#[40, 108, 101, 116, 32]⟩ : ByteArray) ++ x) ++ (⟨#[32, 105, 110, 32]⟩ : ByteArray)).size = 5 + x.size + 4 := by rw [ByteArray.size_append, ce1, le2]
          have ce3 : ((((⟨#[40, 108, 101, 116, 32]⟩ : ByteArray) ++ x) ++ (⟨#[32, 105, 110, 32]⟩ : ByteArray)) ++ y).size = 5 + x.size + 4 + y.size := by rw [ByteArray.size_append, ce2]
          clear hcell hxs b0 b1 b2
          have b0 := heap_cell HX.out (j := 0) rfl
          go_wp2_with fail
          clear b0
          refine wp_region_quiet_below (by kernel_rfl) (by kernel_rfl) ?_
          repeat (go_big_quiet_step (fail))
          refine wpQuiet_nil ?_
          intro _ hw'
          obtain ⟨⟨dq, osq⟩, hw''⟩ := hw'
          subst hw''
          have HB1 := hid (HB.out.trans ((below_regrown wr dq osq).mono HB.out.size))
          clear c0 c1 r1 r2
          go_wp2_with fail
          go_ret
          exact ret_str2 HT.out.symm HB1.out
      · rcases hk with rfl | rfl
        · obtain ⟨x, hxs⟩ : ∃ x, Co.texts ks1 = [x] := by
            have hl := Co.texts_length ks1
            rw [hn] at hl
            match Co.texts ks1, hl with
            | [x], _ => exact ⟨x, rfl⟩
          have hzz0 := HZK.out
          rw [hxs] at HO hzz0
          simp only [szs] at hzz0
          clear hn
          obtain ⟨g, c, rfl, hcell⟩ : ∃ g c, v0 = .slice (some ⟨g, 0, none⟩) 1 c ∧ ∀ (j : Nat) x', [x][j]? = some x' → wr.cell? ⟨g, j, none⟩ = some (.string x') := OwnStr.at HO.out (by simp)
          have hc0 := hcell 0 x rfl
          have HT := hid (show Co.text (Co.mk 4 v1 ds1 ks1) = ((⟨#[94]⟩ : ByteArray) ++ x) by rw [Co.text, hxs]; rfl)
          have le1 : (⟨#[94]⟩ : ByteArray).size = 1 := rfl
          clear hcell hxs
          go_wp2_with fail
          go_ret
          exact ret_str2 HT.out.symm HB.out
        · obtain ⟨x, hxs⟩ : ∃ x, Co.texts ks1 = [x] := by
            have hl := Co.texts_length ks1
            rw [hn] at hl
            match Co.texts ks1, hl with
            | [x], _ => exact ⟨x, rfl⟩
          have hzz0 := HZK.out
          rw [hxs] at HO hzz0
          simp only [szs] at hzz0
          clear hn
          obtain ⟨g, c, rfl, hcell⟩ : ∃ g c, v0 = .slice (some ⟨g, 0, none⟩) 1 c ∧ ∀ (j : Nat) x', [x][j]? = some x' → wr.cell? ⟨g, j, none⟩ = some (.string x') := OwnStr.at HO.out (by simp)
          have hc0 := hcell 0 x rfl
          have HT := hid (show Co.text (Co.mk 6 v1 ds1 ks1) = ((⟨#[33]⟩ : ByteArray) ++ x) by rw [Co.text, hxs]; rfl)
          have le1 : (⟨#[33]⟩ : ByteArray).size = 1 := rfl
          clear hcell hxs
          go_wp2_with fail
          go_ret
          exact ret_str2 HT.out.symm HB.out
      · have HT := hid (show Co.text (Co.mk 8 v1 ds1 ks1) = (⟨#[60]⟩ ++ addAll blank ⟨(Lib.itoa v1).toArray⟩ (Co.texts ks1)) ++ ⟨#[62]⟩ by simp [Co.text, nodeTxt, dec, addAll_pre])
        have HC := hid (impl_Decimal v1 lov hiv wr (HP.out.below HB.out))
        have hsz : (⟨(Lib.itoa v1).toArray⟩ : ByteArray).size ≤ 11 := dec_size HLV.out
        have HTL := hid (Co.texts_length ks1)
        obtain ⟨xs, hxs⟩ : ∃ xs, Co.texts ks1 = xs := ⟨_, rfl⟩
        rw [hxs] at HO HT HTL HZK
        clear hxs
        go_wp2_with fail
        refine HC.out.mono ?_
        rintro e w1 ⟨rfl, hb⟩
        have HO1 := hid (ownsRow.below HO.out hb)
        have HB1 := hid (HB.out.trans (hb.mono HB.out.size))
        clear hb
        go_wp2_with (at_builtin; refine wpList_append_ss rfl _ _ rfl w1.heap.size (w.heap.size + 1) _ _ [⟨(Lib.itoa v1).toArray⟩] xs rfl rfl (OwnStr.made w1 _) (HO1.out.alloc _) ?c1 ?c2 ?_)
        case c1 => have := HTL.out; simp; omega
        case c2 => simp
        intro v2 w2 ho2 hg2
        have HO2 := hid (show OwnStr w2 w1.heap.size v2 (⟨(Lib.itoa v1).toArray⟩ :: xs) by simpa [OwnStr] using ho2)
        have HB2 := hid ((HB1.out.alloc HB1.out.size (.cells #[.string ⟨(Lib.itoa v1).toArray⟩] 9)).grown hg2 (by have := HB1.out.size; simp; omega) fun k hk => by have := (OwnStr.made w1 ⟨(Lib.itoa v1).toArray⟩).lt k hk; have h2 := HB1.out.size; omega)
        have HJ := hid (join_own (sep := blank) HO2.out (by have := HTL.out; simp; omega) (by decide) (by have := HZK.out; simp only [szs]; omega))
        have hjs : (joinS blank (⟨(Lib.itoa v1).toArray⟩ :: xs)) = addAll blank ⟨(Lib.itoa v1).toArray⟩ xs := rfl
        rw [hjs] at HJ
        have hjz : (addAll blank ⟨(Lib.itoa v1).toArray⟩ xs).size ≤ 67109000 := by
          have h1 := HTL.out
          have h2 := HZK.out
          have h3 : blank.size = 1 := rfl
          rw [addAll_size, h3]
          omega
        generalize addAll blank ⟨(Lib.itoa v1).toArray⟩ xs = J at HJ hjz HT
        have e1 : (⟨#[60]⟩ : ByteArray).size = 1 := rfl
        have e2 : (⟨#[62]⟩ : ByteArray).size = 1 := rfl
        have e3 : ((⟨#[60]⟩ : ByteArray) ++ J).size = 1 + J.size := by rw [ByteArray.size_append, e1]
        clear hjs ho2 hg2
        go_wp2_with fail
        refine HJ.out.mono ?_
        rintro e w3 ⟨rfl, hb⟩
        have HB3 := hid (HB2.out.trans (hb.mono HB2.out.size))
        clear hb
        go_wp2_with fail
        go_ret
        exact ret_str2 HT.out.symm HB3.out
      · rcases hk with rfl | rfl
        · obtain ⟨x, hxs⟩ : ∃ x, Co.texts ks1 = [x] := by
            have hl := Co.texts_length ks1
            rw [hn] at hl
            match Co.texts ks1, hl with
            | [x], _ => exact ⟨x, rfl⟩
          have hzz0 := HZK.out
          rw [hxs] at HO hzz0
          simp only [szs] at hzz0
          clear hn
          obtain ⟨g, c, rfl, hcell⟩ : ∃ g c, v0 = .slice (some ⟨g, 0, none⟩) 1 c ∧ ∀ (j : Nat) x', [x][j]? = some x' → wr.cell? ⟨g, j, none⟩ = some (.string x') := OwnStr.at HO.out (by simp)
          have c0 := cell_regrown (hcell 0 x rfl)
          have HT := hid (show Co.text (Co.mk 9 v1 ds1 ks1) = (((((⟨#[91]⟩ : ByteArray) ++ decs ds1) ++ (⟨#[58]⟩ : ByteArray)) ++ x) ++ (⟨#[93]⟩ : ByteArray)) by rw [Co.text, hxs]; rfl)
          have r1 := cell_regrown b1
          have r2 := cell_regrown b2
          have hc3 := fun d os => Calls.regrown_of (impl_decimals ds1 ads1 cds1 (grow (redrawn wr d) os) ((HP.out.below HB.out).below (below_regrown _ d os)) hdl HCD.out ((HDS.out.below HB.out).below (below_regrown _ d os)))
          have hzd := decs_size HCD.out
          generalize hz : decs ds1 = d at hc3 hzd HT
          have hzz : d.size ≤ 48 := by omega
          have HC3 := hid hc3
          clear hc3 hz hzd
          have le1 : (⟨#[91]⟩ : ByteArray).size = 1 := rfl
          have le2 : (⟨#[58]⟩ : ByteArray).size = 1 := rfl
          have le3 : (⟨#[93]⟩ : ByteArray).size = 1 := rfl
          have ce1 : ((⟨#[91]⟩ : ByteArray) ++ d).size = 1 + d.size := by rw [ByteArray.size_append, le1]
          have ce2 : (((⟨#[91]⟩ : ByteArray) ++ d) ++ (⟨#[58]⟩ : ByteArray)).size = 1 + d.size + 1 := by rw [ByteArray.size_append, ce1, le2]
          have ce3 : ((((⟨#[91]⟩ : ByteArray) ++ d) ++ (⟨#[58]⟩ : ByteArray)) ++ x).size = 1 + d.size + 1 + x.size := by rw [ByteArray.size_append, ce2]
          clear hcell hxs b0 b1 b2
          have b0 := heap_cell HX.out (j := 0) rfl
          go_wp2_with fail
          clear b0
          refine wp_region_quiet_below (by kernel_rfl) (by kernel_rfl) ?_
          repeat (go_big_quiet_step (with_reducible exact HC3.out _ _))
          refine wpQuiet_nil ?_
          intro _ hw'
          obtain ⟨⟨dq, osq⟩, hw''⟩ := hw'
          subst hw''
          have HB1 := hid (HB.out.trans ((below_regrown wr dq osq).mono HB.out.size))
          clear c0 r1 r2 HC3
          go_wp2_with fail
          go_ret
          exact ret_str2 HT.out.symm HB1.out
        · obtain ⟨x, hxs⟩ : ∃ x, Co.texts ks1 = [x] := by
            have hl := Co.texts_length ks1
            rw [hn] at hl
            match Co.texts ks1, hl with
            | [x], _ => exact ⟨x, rfl⟩
          have hzz0 := HZK.out
          rw [hxs] at HO hzz0
          simp only [szs] at hzz0
          clear hn
          obtain ⟨g, c, rfl, hcell⟩ : ∃ g c, v0 = .slice (some ⟨g, 0, none⟩) 1 c ∧ ∀ (j : Nat) x', [x][j]? = some x' → wr.cell? ⟨g, j, none⟩ = some (.string x') := OwnStr.at HO.out (by simp)
          have c0 := cell_regrown (hcell 0 x rfl)
          have HT := hid (show Co.text (Co.mk 10 v1 ds1 ks1) = (((((⟨#[123]⟩ : ByteArray) ++ decs ds1) ++ (⟨#[58]⟩ : ByteArray)) ++ x) ++ (⟨#[125]⟩ : ByteArray)) by rw [Co.text, hxs]; rfl)
          have r1 := cell_regrown b1
          have r2 := cell_regrown b2
          have hc3 := fun d os => Calls.regrown_of (impl_decimals ds1 ads1 cds1 (grow (redrawn wr d) os) ((HP.out.below HB.out).below (below_regrown _ d os)) hdl HCD.out ((HDS.out.below HB.out).below (below_regrown _ d os)))
          have hzd := decs_size HCD.out
          generalize hz : decs ds1 = d at hc3 hzd HT
          have hzz : d.size ≤ 48 := by omega
          have HC3 := hid hc3
          clear hc3 hz hzd
          have le1 : (⟨#[123]⟩ : ByteArray).size = 1 := rfl
          have le2 : (⟨#[58]⟩ : ByteArray).size = 1 := rfl
          have le3 : (⟨#[125]⟩ : ByteArray).size = 1 := rfl
          have ce1 : ((⟨#[123]⟩ : ByteArray) ++ d).size = 1 + d.size := by rw [ByteArray.size_append, le1]
          have ce2 : (((⟨#[123]⟩ : ByteArray) ++ d) ++ (⟨#[58]⟩ : ByteArray)).size = 1 + d.size + 1 := by rw [ByteArray.size_append, ce1, le2]
          have ce3 : ((((⟨#[123]⟩ : ByteArray) ++ d) ++ (⟨#[58]⟩ : ByteArray)) ++ x).size = 1 + d.size + 1 + x.size := by rw [ByteArray.size_append, ce2]
          clear hcell hxs b0 b1 b2
          have b0 := heap_cell HX.out (j := 0) rfl
          go_wp2_with fail
          clear b0
          refine wp_region_quiet_below (by kernel_rfl) (by kernel_rfl) ?_
          repeat (go_big_quiet_step (with_reducible exact HC3.out _ _))
          refine wpQuiet_nil ?_
          intro _ hw'
          obtain ⟨⟨dq, osq⟩, hw''⟩ := hw'
          subst hw''
          have HB1 := hid (HB.out.trans ((below_regrown wr dq osq).mono HB.out.size))
          clear c0 r1 r2 HC3
          go_wp2_with fail
          go_ret
          exact ret_str2 HT.out.symm HB1.out
theorem impl_text_all : ∀ N, ImTxW N
  | 0 => fun _ _ _ _ _ _ _ _ _ _ h => absurd h (by omega)
  | N + 1 => impl_text_step N (impl_text_all N)
end Go.Proofs.YtikhofcjkcbpbaaDoor
