/- Walks: InhabitedDatas in both. No condition. -/
import Derived.Test.YtgpefnlpbjnjbaaInhC
import Derived.Test.YtgpefnlpbjnjbaaDatOkI
import Derived.Test.YtgpefnlpbjnjbaaToSc
import Derived.Deep.LoopGhost
namespace Go.Proofs.Ytgpefnlpbjnjbaa
open Go.ChangeShapes Go.WideShapes Go.ChangeAt Go.RowKit
open Go.Sort (grow)
set_option linter.unusedVariables false

theorem LiveAt.own {g n B : Nat} {lv : List Bool} {w : World} (h : LiveAt g lv w) (hn : lv.length = n) (hs : n ≤ 1048576) (hB : B ≤ g) : OwnL w B (Bo.ds lv) (.slice (some ⟨g, 0, none⟩) n n) := by
  subst hn
  have hlt := (Array.getElem?_eq_some_iff.1 h).1
  by_cases hl : lv = []
  · subst hl
    exact ⟨[], Rd.nil_mk (by simp), Owned.nil _ _⟩
  · have hne : Bo.ds lv ≠ [] := fun e => hl (List.length_eq_zero_iff.1 (by rw [← Bo.ds_length, e]; rfl))
    have hra : RdAll w (Bo.ds lv) (lv.map Value.bool) [] := by
      clear h hlt hs hne hl
      induction lv with
      | nil => exact RdAll.nil
      | cons x xs ih => simpa [Bo.ds, Bo.d] using RdAll.cons (Rd.bool_mk (b := x)) ih
    have hrd := Rd.list_mk (w := w) (b := g) (o := 0) (cap := lv.length) hne (by rw [Bo.ds_length]; exact Nat.le_refl _) (by omega) hlt (fun j v hj => by
      rw [List.getElem?_map] at hj
      obtain ⟨x, hx, rfl⟩ := Option.map_eq_some_iff.1 hj
      rw [Nat.zero_add]; exact h.cell hx) hra
    rw [Bo.ds_length] at hrd
    exact ⟨[g], hrd, ⟨by simp, fun b hb => by
      simp only [List.mem_cons, List.not_mem_nil, or_false] at hb
      subst hb
      exact ⟨hB, _, _, h⟩⟩⟩
theorem bos_none {w w' : World} (a : Option Addr) (hb : Below w.heap.size w w') : GivesBos [] w (.returned (.slice a 0 0)) w' := ⟨a, 0, rfl, ⟨[], Rd.nil_mk (by omega), Owned.nil _ _⟩, hb⟩
theorem bos_live {w w' : World} {g n : Nat} {lv xs : List Bool} (he : xs = lv) (h : LiveAt g lv w') (hn : lv.length = n) (hs : n ≤ 1048576) (hB : w.heap.size ≤ g) (hb : Below w.heap.size w w') : GivesBos xs w (.returned (.slice (some ⟨g, 0, none⟩) n n)) w' := by
  subst he
  exact ⟨_, n, by rw [hn], by rw [hn]; exact h.own hn hs hB, hb⟩
theorem any_take {α : Type} (p : α → Bool) (l : List α) (j : Nat) (t : α) (h : l[j]? = some t) : (l.take (j + 1)).any p = ((l.take j).any p || p t) := by
  rw [List.take_add_one, h]; simp
set_option maxRecDepth 100000 in
set_option maxHeartbeats 4000000 in
theorem spec_Inh (ts : List Dat) (a : Option Addr) (c : Nat) (w : World) (hM : Dat.bulks ts ≤ 1048576) (hd : RdL w (Dat.ds ts) (.slice a ts.length c)) :
    Calls Try.prog 19 #[.slice a ts.length c] w (GivesBos (inhN ts) w) := by
  have HC := hid (spec_l02Ok ts a c w hM hd)
  have hl := Dat.bulks_length ts
  have hn : ts.length ≤ 1048576 := by omega
  have HM := hid hM
  by_cases hok : datasOk ts = true
  case neg =>
    have hf := (Bool.not_eq_true _).mp hok
    rw [hf] at HC
    have HE := hid (inhN_no hf)
    clear hf hok hd hM hl
    go_enter Try.func19, Try.ntmps19
    go_wp2_with fail
    refine HC.out.mono ?_
    rintro e w1 ⟨rfl, hb⟩
    have HB := hid (hb.alloc hb.size (.cells #[] 4))
    clear hb
    go_wp2_with fail
    go_ret
    rw [HE.out]
    exact bos_none _ HB.out
  case pos =>
    rw [hok] at HC
    have HE := hid (inhN_yes hok)
    have HOK := hid hok
    have HD := hid hd
    obtain ⟨_, _, e, h2, h3, h4⟩ := hd.eDat
    simp only [Value.slice.injEq, true_and] at e
    obtain ⟨rfl, rfl⟩ := e
    have H4 := hid h4
    clear hok hd hM h2 h3 h4 hl
    go_enter Try.func19, Try.ntmps19
    go_wp2_with fail
    refine HC.out.mono ?_
    rintro e w1 ⟨rfl, hb⟩
    have HB := hid hb
    have hmk := makeBoL ts.length hn w1
    have HLV := hid (LiveAt.made w1 ts.length)
    have HBM := hid (hb.alloc hb.size (.cells (madeCells #[.bool false] ts.length) 4))
    clear hb
    go_wp2_with fail
    clear hmk
    go_loopw [4] (fun i wr => ∃ (r : Nat), r ≤ ts.length ∧ i = .int .i64 r ∧ Hid (LiveAt w1.heap.size (iter ts r) wr) ∧ Hid (Below w.heap.size w wr)) (fun i _ => ts.length - (intOf i).toNat)
    case atStart => exact ⟨0, by omega, rfl, HLV, HBM⟩
    case round =>
      obtain ⟨r, hr, rfl, HLR, HBR⟩ := hrel
      obtain ⟨wo, hwo⟩ : ∃ wo, wo = wr := ⟨_, rfl⟩
      subst hwo
      by_cases hrl : r < ts.length
      case neg =>
        have HP := hid (show GivesBos (inhN ts) w (.returned (.slice (some ⟨w1.heap.size, 0, none⟩) ts.length ts.length)) wo from bos_live (by rw [HE.out, show ts.length = r by omega]) HLR.out (iter_len ts r) hn HB.out.size HBR.out)
        go_wp2_with fail
        go_ret
        exact HP.out
      case pos =>
      have HIL := hid (iter_len ts r)
      have HNX := hid (show round ts (iter ts r) = iter ts (r + 1) from rfl)
      generalize iter ts r = L0 at HLR HIL HNX
      go_wp2_with fail
      go_loopw [5] (fun i wr => ∃ (j : Nat), j ≤ ts.length ∧ i = .int .i64 j ∧ Hid (LiveAt w1.heap.size (liveFrom ts (ts.take j) 0 L0) wr) ∧ Hid (Below w.heap.size w wr)) (fun i _ => ts.length - (intOf i).toNat)
      case atStart => exact ⟨0, by omega, rfl, by simpa [liveFrom] using HLR, HBR⟩
      case round =>
        obtain ⟨j, hj, rfl, HLJ, HBJ⟩ := hrel
        obtain ⟨wj, hwj⟩ : ∃ wj, wj = wr := ⟨_, rfl⟩
        subst hwj
        by_cases hjl : j < ts.length
        case neg =>
          have HLN := hid (show LiveAt w1.heap.size (iter ts (r + 1)) wj by have h := HLJ.out; rw [List.take_of_length_le (by omega)] at h; rw [← HNX.out]; exact h)
          go_wp2_with fail
          go_roundw
          case rel => exact ⟨r + 1, by omega, by go_num, HLN, HBJ⟩
          case measure => simp [intOf]; omega
        case pos =>
        obtain ⟨b, o, rfl, hbl, hall⟩ := H4.out (by omega)
        obtain ⟨t, ht⟩ : ∃ t, ts[j]? = some t := ⟨_, List.getElem?_eq_getElem hjl⟩
        obtain ⟨nm, cs⟩ := t
        obtain ⟨acs, ccs, q0, q1, hrk⟩ := hall j nm cs ht
        have hks := hrk.fDat.2
        obtain ⟨_, _, e, h2, h3, h4⟩ := hks.eCon
        simp only [Value.slice.injEq, true_and] at e
        obtain ⟨rfl, rfl⟩ := e
        have hcl : cs.length ≤ 1048576 := by have h1 := Dat.bulk_get ts j _ ht; have h2 := Con.bulks_length cs; have h3 := HM.out; simp only [Dat.bulk] at h1; omega
        have HC4 := hid h4
        have HT := hid ht
        have HQ1 := hid q1
        have HLL := hid (show (liveFrom ts (ts.take j) 0 L0).length = ts.length by rw [(liveFrom_step ts _ _ _).1]; exact HIL.out)
        have HNJ := hid (show liveFrom ts (ts.take (j + 1)) 0 L0 = setIf (cs.any (conLives ts (liveFrom ts (ts.take j) 0 L0))) (liveFrom ts (ts.take j) 0 L0) j by rw [liveFrom_take ts ts 0 j _ L0 ht, Nat.zero_add]; rfl)
        generalize liveFrom ts (ts.take j) 0 L0 = L at HLJ HLL HNJ
        clear hall H4 q0 q1 ht hrk hks h2 h3 h4
        go_wp2_with fail
        go_loopw [6] (fun i wr => ∃ (q : Nat) (cur : List Bool), q ≤ cs.length ∧ i = .int .i64 q ∧ Hid (cur = setIf ((cs.take q).any (conLives ts L)) L j) ∧ Hid (LiveAt w1.heap.size cur wr) ∧ Hid (Below w.heap.size w wr)) (fun i _ => cs.length - (intOf i).toNat)
        case atStart => exact ⟨0, L, by omega, rfl, hid (by simp [setIf]), HLJ, HBJ⟩
        case round =>
          obtain ⟨q, cur, hq, rfl, HCU, HLQ, HBQ⟩ := hrel
          have p1 := (HBQ.out.cell (p := ⟨b, o + j * 2 + 1, none⟩) hbl).trans HQ1.out
          by_cases hql : q < cs.length
          case neg =>
            have HLN := hid (show LiveAt w1.heap.size (liveFrom ts (ts.take (j + 1)) 0 L0) wr by have h := HCU.out; rw [List.take_of_length_le (by omega)] at h; rw [HNJ.out, ← h]; exact HLQ.out)
            go_wp2_with fail
            go_roundw
            case rel => exact ⟨j + 1, by omega, by go_num, HLN, HBQ⟩
            case measure => simp [intOf]; omega
          case pos =>
          obtain ⟨b2, o2, rfl, hbl2, hall2⟩ := HC4.out (by omega)
          obtain ⟨t2, ht2⟩ : ∃ t, cs[q]? = some t := ⟨_, List.getElem?_eq_getElem hql⟩
          obtain ⟨n3, fs3⟩ := t2
          obtain ⟨afs3, cfs3, u0, u1, hrk2⟩ := hall2 q n3 fs3 ht2
          have d0 := (HBQ.out.cell (p := ⟨b2, o2 + q * 2, none⟩) hbl2).trans u0
          have d1 := (HBQ.out.cell (p := ⟨b2, o2 + q * 2 + 1, none⟩) hbl2).trans u1
          have hcul : cur.length = ts.length := by rw [HCU.out, setIf_len]; exact HLL.out
          have hc := spec_livesBy ts (some ⟨b, o, none⟩) c cur _ hcul n3 fs3 afs3 cfs3 wr (datas_fields HOK.out HT.out ht2) (HD.out.below HBQ.out) (HLQ.out.bools hcul hn) (hrk2.below HBQ.out)
          have HAT := hid (any_take (conLives ts L) cs q _ ht2)
          have HSZ := hid (show w1.heap.size < wr.heap.size from (Array.getElem?_eq_some_iff.1 HLQ.out).1)
          clear hall2 HC4 u0 u1 hrk2 ht2 hcul
          cases hx : conLives ts cur (Con.mk n3 fs3)
          case false =>
            rw [hx] at hc
            have HC := hid hc
            have HCU2 := hid (show cur = setIf ((cs.take (q + 1)).any (conLives ts L)) L j by
              have h := HCU.out
              rw [HAT.out]
              cases hB : (cs.take q).any (conLives ts L)
              · rw [hB] at h
                have hcL : cur = L := h
                rw [hcL] at hx
                rw [hx]; exact h
              · rw [hB] at h; exact h)
            clear hc hx
            go_wp2_with fail
            refine HC.out.mono ?_
            rintro e w2 ⟨rfl, hb⟩
            have HB2 := hid (HBQ.out.trans (hb.mono HBQ.out.size))
            have HL2 := hid (HLQ.out.below hb)
            clear hb p1 d0 d1
            go_wp2_with fail
            go_roundw
            case rel => exact ⟨q + 1, cur, by omega, by go_num, HCU2, HL2, HB2⟩
            case measure => simp [intOf]; omega
          case true =>
            rw [hx] at hc
            have HC := hid hc
            have HCU2 := hid (show cur.set j true = setIf ((cs.take (q + 1)).any (conLives ts L)) L j by
              have h := HCU.out
              rw [HAT.out]
              cases hB : (cs.take q).any (conLives ts L)
              · rw [hB] at h
                have hcL : cur = L := h
                rw [hcL] at hx
                rw [hx, hcL]; rfl
              · rw [hB] at h
                have hcL : cur = L.set j true := h
                rw [hcL, List.set_set]; rfl)
            obtain ⟨x0, hx0⟩ : ∃ x, cur[j]? = some x := ⟨_, List.getElem?_eq_getElem (by rw [HCU.out, setIf_len, HLL.out]; exact hjl)⟩
            have HX0 := hid hx0
            clear hc hx hx0
            go_wp2_with fail
            refine HC.out.mono ?_
            rintro e w2 ⟨rfl, hb⟩
            have HB2 := hid (HBQ.out.trans (hb.mono HBQ.out.size))
            have HL2 := hid (HLQ.out.below hb)
            have z0 := HL2.out.free j
            have y0 := HL2.out.cell HX0.out
            clear hb p1 d0 d1
            go_wp2_with fail
            go_roundw
            case rel => exact ⟨q + 1, cur.set j true, by omega, by go_num, HCU2, hid HL2.out.set, hid (HB2.out.setCell HB.out.size _)⟩
            case measure => simp [intOf]; omega
theorem boxesK (w : World) (a b : Obj) : ((w.alloc a).alloc b).heap[w.heap.size]? = some a ∧ ((w.alloc a).alloc b).heap[w.heap.size + 1]? = some b ∧ Below w.heap.size w ((w.alloc a).alloc b) := by
  have h1 := heap_alloc_new w a
  have h2 := heap_alloc_new (w.alloc a) b
  simp only [World.size_alloc] at h2
  refine ⟨?_, h2, ((Below.refl _ _).alloc (Nat.le_refl _) _).alloc (by simp) _⟩
  rw [Below.heap_alloc _ _ _ (by simp)]; exact h1
set_option maxRecDepth 100000 in
set_option maxHeartbeats 4000000 in
theorem impl_Inh (ts : List Dat) (a : Option Addr) (c : Nat) (w : World) (hM : Dat.bulks ts ≤ 1048576) (hd : RdL w (Dat.ds ts) (.slice a ts.length c)) :
    Calls Try.prog 21 #[.slice a ts.length c] w (GivesBos (inhN ts) w) := by
  have hl := Dat.bulks_length ts
  have hn : ts.length ≤ 1048576 := by omega
  have HM := hid hM
  have hB0 := (Below.refl w.heap.size w).alloc (Nat.le_refl _) (.cells #[.slice a ts.length c] 40)
  have hx := heap_alloc_new w (.cells #[.slice a ts.length c] 40)
  have HB0 := hid hB0
  have HX0 := hid hx
  have e0 := heap_cell hx (j := 0) rfl
  have HC := hid (impl_ValidDatas ts a c _ hM (hd.below hB0))
  clear hx
  by_cases hok : datasOk ts = true
  case neg =>
    have hf := (Bool.not_eq_true _).mp hok
    rw [hf] at HC
    have HE := hid (inhN_no hf)
    clear hf hok hd hM hl hB0
    go_enter Try.func21, Try.ntmps21
    go_wp2_with fail
    refine HC.out.mono ?_
    rintro e w1 ⟨rfl, hb⟩
    have HB := hid (HB0.out.trans (hb.mono HB0.out.size))
    clear hb e0
    go_wp2_with fail
    go_ret
    rw [HE.out]
    exact bos_none _ HB.out
  case pos =>
    rw [hok] at HC
    have HE := hid (inhN_yes hok)
    have HOK := hid hok
    have HD := hid hd
    obtain ⟨_, _, e, h2, h3, h4⟩ := hd.eDat
    simp only [Value.slice.injEq, true_and] at e
    obtain ⟨rfl, rfl⟩ := e
    have H4 := hid h4
    clear hok hd hM h2 h3 h4 hl hB0
    go_enter Try.func21, Try.ntmps21
    go_wp2_with fail
    refine HC.out.mono ?_
    rintro e w1 ⟨rfl, hb⟩
    have HB := hid (HB0.out.trans (hb.mono HB0.out.size))
    have HX1 := hid ((hb.block _ (Array.getElem?_eq_some_iff.1 HX0.out).1).trans HX0.out)
    have e1 := heap_cell HX1.out (j := 0) rfl
    have hmk := makeBoL ts.length hn w1
    have hbx := boxesK w1 (.cells (madeCells #[.bool false] ts.length) 4) (.cells #[.slice (some ⟨w1.heap.size, 0, none⟩) ts.length ts.length] 38)
    have HLV := hid (show LiveAt w1.heap.size (List.replicate ts.length false) ((w1.alloc (.cells (madeCells #[.bool false] ts.length) 4)).alloc (.cells #[.slice (some ⟨w1.heap.size, 0, none⟩) ts.length ts.length] 38)) from (LiveAt.made w1 ts.length).below ((Below.refl _ _).alloc (Nat.le_refl _) _))
    have HK := hid hbx.2.1
    have HBX := hid hbx.2.2
    have HXD := hid ((hbx.2.2.block _ (Array.getElem?_eq_some_iff.1 HX1.out).1).trans HX1.out)
    have HBM := hid (HB.out.trans (hbx.2.2.mono HB.out.size))
    clear hb hbx e0
    go_wp2_with fail
    clear hmk e1
    go_loopg [4] (ts.length + 1) (fun gq gr wr => ∃ (r : Nat) (g0 : Bool), gr = .bool g0 ∧ Hid (LiveAt w1.heap.size (iter ts r) wr) ∧ Hid (wr.heap[w.heap.size]? = some (.cells #[.slice a ts.length c] 40)) ∧ Hid (wr.heap[w1.heap.size + 1]? = some (.cells #[.slice (some ⟨w1.heap.size, 0, none⟩) ts.length ts.length] 38)) ∧ Hid (Below w.heap.size w wr) ∧ Hid ((g0 = false ∧ gq = 0 ∧ round ts (iter ts r) = iter ts r) ∨ (g0 = true ∧ gq = ts.length + 1 - cntT (iter ts r))))
    case atStart => exact ⟨0, true, rfl, HLV, HXD, HK, HBM, hid (.inr ⟨rfl, by simp [iter, cntT, List.count_replicate]⟩)⟩
    case round =>
      obtain ⟨r, g0, rfl, HLR, HDX, HKX, HBR, HGQ⟩ := hrel
      obtain ⟨wo, hwo⟩ : ∃ wo, wo = wr := ⟨_, rfl⟩
      subst hwo
      have dD := heap_cell HDX.out (j := 0) rfl
      have dK := heap_cell HKX.out (j := 0) rfl
      cases g0
      case false =>
        have HP := hid (show GivesBos (inhN ts) w (.returned (.slice (some ⟨w1.heap.size, 0, none⟩) ts.length ts.length)) wo from bos_live (HE.out.trans (HGQ.out.elim (fun h => (iter_same ts h.2.2).symm) (fun h => absurd h.1 (by simp)))) HLR.out (iter_len ts r) hn HB.out.size HBR.out)
        go_wp2_with fail
        go_ret
        exact HP.out
      case true =>
      have HIL := hid (iter_len ts r)
      have HNX := hid (show round ts (iter ts r) = iter ts (r + 1) from rfl)
      have HGE := hid (show gk = ts.length + 1 - cntT (iter ts r) from HGQ.out.elim (fun h => absurd h.1 (by simp)) (fun h => h.2))
      have HCL := hid (show cntT (iter ts r) ≤ ts.length by have h := cntT_le (iter ts r); rw [iter_len] at h; exact h)
      generalize iter ts r = L0 at HLR HIL HNX HGE HCL HGQ
      clear HGQ
      go_wp2_with fail
      clear dD dK
      go_loopw [4, 5, 6, 7, 17] (fun gr _ _ _ i wr => ∃ (j : Nat) (g1 : Bool) (cur : List Bool), j ≤ ts.length ∧ i = .int .i64 j ∧ gr = .bool g1 ∧ Hid (cur = liveFrom ts (ts.take j) 0 L0) ∧ Hid (LiveAt w1.heap.size cur wr) ∧ Hid (wr.heap[w.heap.size]? = some (.cells #[.slice a ts.length c] 40)) ∧ Hid (wr.heap[w1.heap.size + 1]? = some (.cells #[.slice (some ⟨w1.heap.size, 0, none⟩) ts.length ts.length] 38)) ∧ Hid (Below w.heap.size w wr) ∧ Hid ((g1 = false ∧ cur = L0) ∨ (g1 = true ∧ cntT L0 < cntT cur))) (fun _ _ _ _ i _ => ts.length - (intOf i).toNat)
      case atStart => exact ⟨0, false, L0, by omega, rfl, rfl, hid (by simp [liveFrom]), HLR, HDX, HKX, HBR, hid (.inl ⟨rfl, rfl⟩)⟩
      case round =>
        obtain ⟨j, g1, cur, hj, rfl, rfl, HCU, HLJ, HDY, HKY, HBJ, HG1⟩ := hrel
        obtain ⟨wj, hwj⟩ : ∃ wj, wj = wr := ⟨_, rfl⟩
        subst hwj
        by_cases hjl : j < ts.length
        case neg =>
          have HLN := hid (show cur = iter ts (r + 1) by have h := HCU.out; rw [List.take_of_length_le (by omega)] at h; rw [← HNX.out]; exact h)
          have HLQ := hid (show LiveAt w1.heap.size (iter ts (r + 1)) wj by rw [← HLN.out]; exact HLJ.out)
          cases g1
          case false =>
            have HR2 := hid (show round ts (iter ts (r + 1)) = iter ts (r + 1) by
              rcases HG1.out with h | h
              · have h1 := HLN.out; rw [h.2] at h1; rw [← h1, HNX.out, ← h1]
              · simp at h)
            go_wp2_with fail
            go_roundg 0
            case rel => exact ⟨r + 1, false, rfl, HLQ, HDY, HKY, HBJ, hid (.inl ⟨rfl, rfl, HR2.out⟩)⟩
            case measure => have h1 := HGE.out; have h2 := HCL.out; omega
          case true =>
            have hlt : cntT L0 < cntT (iter ts (r + 1)) := by
              rcases HG1.out with h | h
              · simp at h
              · rw [← HLN.out]; exact h.2
            have HLT := hid hlt
            clear hlt
            go_wp2_with fail
            go_roundg (ts.length + 1 - cntT (iter ts (r + 1)))
            case rel => exact ⟨r + 1, true, rfl, HLQ, HDY, HKY, HBJ, hid (.inr ⟨rfl, rfl⟩)⟩
            case measure => have h1 := HGE.out; have h2 := HCL.out; have h3 := HLT.out; omega
        case pos =>
        obtain ⟨b, o, rfl, hbl, hall⟩ := H4.out (by omega)
        obtain ⟨t, ht⟩ : ∃ t, ts[j]? = some t := ⟨_, List.getElem?_eq_getElem hjl⟩
        obtain ⟨nm, cs⟩ := t
        obtain ⟨acs, ccs, q0, q1, hrk⟩ := hall j nm cs ht
        have d0 := (HBJ.out.cell (p := ⟨b, o + j * 2, none⟩) hbl).trans q0
        have d1 := (HBJ.out.cell (p := ⟨b, o + j * 2 + 1, none⟩) hbl).trans q1
        have hbd : Below wj.heap.size wj (wj.alloc (.cells #[.string nm, .slice acs cs.length ccs] 101)) := (Below.refl _ _).alloc (Nat.le_refl _) _
        have HBD := hid hbd
        have HLL := hid (show cur.length = ts.length by rw [HCU.out, (liveFrom_step ts _ _ _).1]; exact HIL.out)
        have HNJ := hid (show liveFrom ts (ts.take (j + 1)) 0 L0 = setIf (cs.any (conLives ts cur)) cur j by rw [liveFrom_take ts ts 0 j _ L0 ht, Nat.zero_add, ← HCU.out]; rfl)
        have hG : InhG ts (some ⟨b, o, none⟩) c cur ⟨w.heap.size, 0, none⟩ ⟨w1.heap.size + 1, 0, none⟩ w1.heap.size ts.length (wj.alloc (.cells #[.string nm, .slice acs cs.length ccs] 101)) :=
          InhG.below ⟨heap_cell HDY.out (j := 0) rfl, heap_cell HKY.out (j := 0) rfl, HD.out.below HBJ.out, HLJ.out⟩ hbd
        have HC := hid (contains_Con_2 64 Try.call64 (.pointer (some ⟨w.heap.size, 0, none⟩)) (.pointer (some ⟨w1.heap.size + 1, 0, none⟩)) (conLives ts cur) (InhG ts (some ⟨b, o, none⟩) c cur ⟨w.heap.size, 0, none⟩ ⟨w1.heap.size + 1, 0, none⟩ w1.heap.size ts.length) (fun x y hab h => h.below hab) cs acs ccs _ hG ((hrk.fDat.2.below HBJ.out).below hbd) (fun n3 fs3 afs3 cfs3 q W hq hG' hR => impl_conLives ts (some ⟨b, o, none⟩) c cur ⟨w.heap.size, 0, none⟩ ⟨w1.heap.size + 1, 0, none⟩ w1.heap.size ts.length HLL.out hn HLL.out n3 fs3 afs3 cfs3 W (datas_fields HOK.out ht hq) hG' hR))
        have hxd := heap_alloc_new wj (.cells #[.string nm, .slice acs cs.length ccs] 101)
        have k0 := heap_cell hxd (j := 0) rfl
        have k1 := heap_cell hxd (j := 1) rfl
        obtain ⟨x0, hx0⟩ : ∃ x, cur[j]? = some x := ⟨_, List.getElem?_eq_getElem (by rw [HLL.out]; exact hjl)⟩
        have HX0 := hid hx0
        have dD := heap_cell HDY.out (j := 0) rfl
        clear hall H4 q0 q1 ht hrk hbd hG hxd hx0
        generalize cs.any (conLives ts cur) = sm at HNJ HC
        cases sm
        case false =>
          have HCN := hid (show cur = liveFrom ts (ts.take (j + 1)) 0 L0 from HNJ.out.symm)
          go_wp2_with fail
          refine HC.out.mono ?_
          rintro e w2 ⟨rfl, hb⟩
          have hbw := HBD.out.trans (hb.mono HBD.out.size)
          have HBW := hid hbw
          have HLW := hid (HLJ.out.below hbw)
          have HDW := hid ((hbw.block _ (Array.getElem?_eq_some_iff.1 HDY.out).1).trans HDY.out)
          have HKW := hid ((hbw.block _ (Array.getElem?_eq_some_iff.1 HKY.out).1).trans HKY.out)
          clear hb hbw d0 d1 k0 k1 dD
          go_wp2_with fail
          go_roundw
          case rel => exact ⟨j + 1, g1, cur, by omega, by go_num, rfl, HCN, HLW, HDW, HKW, hid (HBJ.out.trans (HBW.out.mono HBJ.out.size)), HG1⟩
          case measure => simp [intOf]; omega
        case true =>
          go_wp2_with fail
          refine HC.out.mono ?_
          rintro e w2 ⟨rfl, hb⟩
          have hbw := HBD.out.trans (hb.mono HBD.out.size)
          have HBW := hid hbw
          have HLW := hid (HLJ.out.below hbw)
          have HDW := hid ((hbw.block _ (Array.getElem?_eq_some_iff.1 HDY.out).1).trans HDY.out)
          have HKW := hid ((hbw.block _ (Array.getElem?_eq_some_iff.1 HKY.out).1).trans HKY.out)
          have m0 := heap_cell HKW.out (j := 0) rfl
          have y0 := HLW.out.cell HX0.out
          clear hb hbw d0 d1 k0 k1 dD
          cases x0
          case true =>
            have HCN := hid (show cur = liveFrom ts (ts.take (j + 1)) 0 L0 by rw [HNJ.out]; exact (set_same_true cur j HX0.out).symm)
            go_wp2_with fail
            go_roundw
            case rel => exact ⟨j + 1, g1, cur, by omega, by go_num, rfl, HCN, HLW, HDW, HKW, hid (HBJ.out.trans (HBW.out.mono HBJ.out.size)), HG1⟩
            case measure => simp [intOf]; omega
          case false =>
            have HCN := hid (show cur.set j true = liveFrom ts (ts.take (j + 1)) 0 L0 from HNJ.out.symm)
            have HLT := hid (show cntT L0 < cntT (cur.set j true) by
              have h1 := set_cnt cur j HX0.out
              rcases HG1.out with h | h
              · rw [h.2] at h1 ⊢; omega
              · have := h.2; omega)
            have z0 := HLW.out.free j
            have hlw : w.heap.size < w1.heap.size := (Array.getElem?_eq_some_iff.1 HX1.out).1
            go_wp2_with fail
            go_roundw
            case rel => exact ⟨j + 1, true, cur.set j true, by omega, by go_num, rfl, HCN, hid HLW.out.set, hid ((LiveAt.ne (by omega)).trans HDW.out), hid ((LiveAt.ne (by omega)).trans HKW.out), hid ((HBJ.out.trans (HBW.out.mono HBJ.out.size)).setCell HB.out.size _), hid (.inr ⟨rfl, HLT.out⟩)⟩
            case measure => simp [intOf]; omega
end Go.Proofs.Ytgpefnlpbjnjbaa
