/- Walks: Decimal in the reference. No condition. -/
import Derived.Test.YtikhofcjkcbpbaaDoorFrame
import Derived.Test.YtikhofcjkcbpbaaDoorDeP
import Derived.Laws.OwnMore
import Derived.Laws.IdiomStrings
import Derived.Lib.UnsafeStr
import Derived.WalkSmall
namespace Go.Proofs.YtikhofcjkcbpbaaDoor
open Go.ChangeShapes Go.WideShapes Go.ChangeAt Go.RowKit
set_option linter.unusedVariables false

theorem info8d : (Tryd.prog.info? 5).map (fun i => (i.zero, i.size, i.bytes)) = some (some (.int .u8 0), 1, 1) := by kernel_rfl
abbrev u8s (l : List UInt8) : List Value := l.map fun b => Value.int .u8 (b.toNat : Int)
theorem info_parts8 {P : Program} {t : TypeId} {z : Value} {s b : Nat} (h : (P.info? t).map (fun i => (i.zero, i.size, i.bytes)) = some (some z, s, b)) : ∃ i, P.info? t = some i ∧ i.zero = some z ∧ i.size = s ∧ i.bytes = b := by
  cases hi : P.info? t with
  | none => rw [hi] at h; simp at h
  | some i => rw [hi] at h; simp at h; exact ⟨i, rfl, h.1, h.2.1, h.2.2⟩
theorem one8_new (w : World) (x : Value) (t : TypeId) : ∀ j u, [x][j]? = some u → (w.alloc (.cells #[x] t)).cell? ((⟨w.heap.size, 0, none⟩ : Addr).add j) = some u := by
  intro j u hj
  match j, hj with
  | 0, hj =>
    simp only [List.getElem?_cons_zero, Option.some.injEq] at hj
    obtain rfl : u = x := hj.symm
    have hh : (w.alloc (.cells #[u] t (0, 0))).heap[w.heap.size]? = some (.cells #[u] t (0, 0)) := heap_alloc_new w _
    show (w.alloc (.cells #[u] t (0, 0))).cell? ⟨w.heap.size, 0, none⟩ = some u
    simp only [World.cell?, hh]
    simp
  | j + 1, hj => simp at hj
/-- A byte appended to a list of the call's own. -/
theorem wpList_append_byte {w : World} {ops : Array Oper} {rest : List Oper} {o : Oper} {a : Act} {Q : Exit → Act → World → Prop} (hgd : o.guard = none) (s x : Operand)
    (ho : o.op = .call { callee := .builtin .append, args := #[s, x], argTypes := #[44, 44] })
    (base : Nat) (v : Value) (zs : List UInt8) (n : UInt8) (m : Int) (hm : m = (n.toNat : Int)) (ad : Addr) (hs : a.eval s = v) (hx : a.eval x = .slice (some ad) 1 1) (hown : w.ownsRow base 5 1 v zs.length (u8s zs)) (hc : ∀ j u, [Value.int .u8 m][j]? = some u → w.cell? (ad.add j) = some u)
    (h63 : zs.length + 1 ≤ 4194304) (hbase : base ≤ w.heap.size)
    (hK : ∀ v' w', w'.ownsRow base 5 1 v' (zs ++ [n]).length (u8s (zs ++ [n])) → w.grownBy w' v.ownBlock → wpList Tryd.prog ops Q rest (a.put o.dst v') w') : wpList Tryd.prog ops Q (o :: rest) a w := by
  subst hm
  obtain ⟨i0, hi, hz0, hz1, hz2⟩ := info_parts8 info8d
  refine wpList_append_own w hgd s x _ ho base 5 i0 _ 1 1 Tryd.underlying44 hi hz0 hz1 hz2 rfl (by decide) v _ _ hs hown ad 1 1 [.int .u8 (n.toNat : Int)] hx rfl hc (fun u hu => by simp at hu; subst hu; rfl) (by simp only [maxLen]; omega) (by omega) hbase (fun v' w' h5 h6 _ => hK v' w' (by simpa using h5) h6)
theorem own_next8 {B : Nat} {w0 w w' : World} {v : Value} {xs : List UInt8} (hb : Below B w0 w) (hB : B ≤ w.heap.size) (ho : w.ownsRow B 5 1 v xs.length (u8s xs)) (hg : w.grownBy w' v.ownBlock) : Below B w0 w' := hb.grown hg hB fun k hk => (ho.lt k hk).1
theorem own8_string {w : World} {B : Nat} {v : Value} {l : List UInt8} (h : w.ownsRow B 5 1 v l.length (u8s l)) : (convert 44 9 v).run Tryd.prog w = .ok (.string ⟨l.toArray⟩) w := by
  rcases h.2 with ⟨rfl, hn⟩ | ⟨g, cap, cur, rfl, hB, hh, hc, hm, hs, ht⟩
  · obtain rfl : l = [] := List.length_eq_zero_iff.1 hn
    kernel_rfl
  · exact run_convert_bytes_back w 44 9 5 ⟨g, 0, none⟩ cap l Tryd.underlying44 Tryd.underlying5 Tryd.underlying9 (fun j hj => by
      have := h.cells rfl j (.int .u8 (l[j].toNat : Int)) (by simp [List.getElem?_eq_getElem hj])
      simpa [Addr.add] using this)
theorem own8_slice {w : World} {B : Nat} {v : Value} {l : List UInt8} (h : w.ownsRow B 5 1 v l.length (u8s l)) (hl : l ≠ []) : ∃ g cap, v = .slice (some ⟨g, 0, none⟩) l.length cap ∧ g < w.heap.size ∧ ∀ (j : Nat) (hj : j < l.length), w.cell? ⟨g, j, none⟩ = some (.int .u8 (l[j].toNat : Int)) := by
  rcases h.2 with ⟨rfl, hn⟩ | ⟨g, cap, cur, rfl, hB, hh, hc, hm, hs, ht⟩
  · exact absurd (List.length_eq_zero_iff.1 hn) hl
  · refine ⟨g, cap, rfl, (Array.getElem?_eq_some_iff.1 hh).1, fun j hj => ?_⟩
    rw [h.cellAt j (by omega)]
    simp [List.getElem?_eq_getElem hj]
theorem tdiv_nat (u : Nat) : (-(u : Int)).tdiv 10 = -((u / 10 : Nat) : Int) := by rw [Int.neg_tdiv]; rfl
theorem tmod_nat (u : Nat) : (-(u : Int)).tmod 10 = -((u % 10 : Nat) : Int) := by rw [Int.neg_tmod]; rfl
def Says (w : World) (l : List UInt8) (e : Ending) (w' : World) : Prop := e = .returned (.string ⟨l.toArray⟩) ∧ Below w.heap.size w w'
set_option maxRecDepth 100000 in
set_option maxHeartbeats 4000000 in
theorem spec_Decimal (n : Int) (h1 : -9223372036854775808 ≤ n) (h2 : n ≤ 9223372036854775807) (w : World) :
    Calls Tryd.prog 7 #[.int .i64 n] w (Says w (Lib.itoa n)) := by
  have hb1 : Below w.heap.size w (w.alloc (.cells #[] 5)) := (Below.refl _ _).alloc (Nat.le_refl _) _
  have HB1 := hid hb1
  have HO1 := hid (show (w.alloc (.cells #[] 5)).ownsRow w.heap.size 5 1 (.slice (some ⟨w.heap.size, 0, none⟩) 0 0) ([] : List UInt8).length (u8s []) from World.ownsRow_made w #[] 0 (Nat.le_refl _) (by simp [maxLen]) rfl)
  have HLN := hid (show (rdg n.natAbs).length ≤ 20 from rdg_length 20 _ (by rw [show 10 ^ 20 = 100000000000000000000 from rfl]; omega))
  clear hb1
  go_enter Tryd.func7, Tryd.ntmps7
  go_wp2_with fail
  go_loopw [3, 4] (fun o i wr => ∃ (m : Int) (zs : List UInt8) (v0 : Value), i = .int .i64 m ∧ v0 = o ∧ Hid (-9223372036854775808 ≤ m ∧ m ≤ 9223372036854775807) ∧ Hid (wr.ownsRow w.heap.size 5 1 v0 zs.length (u8s zs)) ∧ Hid (Below w.heap.size w wr) ∧ Hid (rdg n.natAbs = zs ++ rdg m.natAbs)) (fun _ i _ => (intOf i).natAbs)
  case atStart => exact ⟨n, [], _, rfl, rfl, hid ⟨h1, h2⟩, HO1, HB1, hid rfl⟩
  case round =>
    obtain ⟨m, zs, v0, rfl, rfl, HR, HO, HB, HE⟩ := hrel
    by_cases h0 : m = 0
    case pos =>
      subst h0
      have HL := hid (show rdg n.natAbs = zs by have h := HE.out; simpa [rdg_zero] using h)
      have hzl : zs.length ≤ 20 := by have h := HLN.out; rw [HL.out] at h; exact h
      by_cases hn0 : n = 0
      case pos =>
        have HZS := hid (show zs = [] by rw [← HL.out, hn0]; exact rdg_zero)
        have HN0 := hid hn0
        have gn : (n == 0) = true := by simp [hn0]
        have gm : decide (n < 0) = false := decide_eq_false (by omega)
        clear hn0
        go_wp2_with (at_builtin; refine wpList_append_byte rfl _ _ rfl w.heap.size _ zs 48 48 (by decide) ⟨wr.heap.size, 0, none⟩ rfl rfl (HO.out.alloc _) (one8_new _ _ _) ?p1 ?p2 ?_)
        case p1 => omega
        case p2 => have := HB.out.size; simp; omega
        intro vo ws ho2 hg2
        have HO2 := hid (show ws.ownsRow w.heap.size 5 1 vo (zs ++ [48]).length (u8s (zs ++ [48])) by simpa [u8s] using ho2)
        have HB2 := hid (own_next8 (HB.out.alloc HB.out.size _) (by have := HB.out.size; simp; omega) (HO.out.alloc _) hg2)
        clear ho2 hg2
        obtain ⟨vz, hvz⟩ : ∃ l, zs ++ [48] = l := ⟨_, rfl⟩
        have HI := hid (show vz.reverse = Lib.itoa n by rw [← hvz, ← rdec_reverse, HN0.out, HZS.out]; unfold rdec; rw [if_pos rfl, if_neg (by omega)]; simp [rdg_zero])
        have hvl : vz.length ≤ 22 := by rw [← hvz, HZS.out]; decide
        rw [hvz] at HO2
        clear hvz
        have HBK1 := hid ((Below.refl ws.heap.size ws).alloc (Nat.le_refl _) (.cells #[] 5))
        have HOK1 := hid (show (ws.alloc (.cells #[] 5)).ownsRow ws.heap.size 5 1 (.slice (some ⟨ws.heap.size, 0, none⟩) 0 0) ([] : List UInt8).length (u8s []) from World.ownsRow_made ws #[] 0 (Nat.le_refl _) (by simp [maxLen]) rfl)
        obtain ⟨g, cap, rfl, hgl, hgc⟩ := own8_slice HO2.out (by intro h; have := HI.out; rw [h] at this; exact itoa_ne_nil n this.symm)
        have HGC := hid hgc
        clear hgc HO
        go_wp2_with fail
        go_loopw [6, 7] (fun b i wk => ∃ (j : Nat) (ys : List UInt8) (v0 : Value), i = .int .i64 ((j : Int) - 1) ∧ j ≤ vz.length ∧ v0 = b ∧ ys.length + j = vz.length ∧ Hid (wk.ownsRow ws.heap.size 5 1 v0 ys.length (u8s ys)) ∧ Hid (Below ws.heap.size ws wk) ∧ Hid (Lib.itoa n = ys ++ (vz.take j).reverse)) (fun _ i _ => (intOf i + 1).toNat)
        case atStart => exact ⟨vz.length, [], _, by go_num, Nat.le_refl _, rfl, by simp, HOK1, HBK1, hid (by rw [List.take_length]; exact HI.out.symm)⟩
        case round =>
          obtain ⟨j, ys, v0, rfl, hj, rfl, hyl, HOY, HBY, HEY⟩ := hrel
          by_cases hj0 : j = 0
          case pos =>
            subst hj0
            have hcv := own8_string HOY.out
            have HP := hid (show Says w (Lib.itoa n) (.returned (.string ⟨ys.toArray⟩)) wr from ⟨by rw [HEY.out]; simp, HB2.out.trans (HBY.out.mono HB2.out.size)⟩)
            go_wp2_with fail
            go_ret
            exact HP.out
          case neg =>
            obtain ⟨j, rfl⟩ : ∃ i, j = i + 1 := ⟨j - 1, by omega⟩
            have hgj := HGC.out j (by omega)
            have d0 := (HBY.out.cell (p := ⟨g, j, none⟩) hgl).trans hgj
            have HE2 := hid (show Lib.itoa n = (ys ++ [vz[j]]) ++ (vz.take j).reverse by rw [HEY.out, List.take_succ_eq_append_getElem (by omega)]; simp)
            have ej : ((j + 1 : Nat) : Int) - 1 = j := by omega
            rw [ej]
            clear hgj ej hj0
            go_wp2_with (at_builtin; refine wpList_append_byte rfl _ _ rfl ws.heap.size _ ys vz[j] _ rfl ⟨wr.heap.size, 0, none⟩ rfl rfl (HOY.out.alloc _) (one8_new _ _ _) ?pp1 ?pp2 ?_)
            case pp1 => omega
            case pp2 => have := HBY.out.size; simp; omega
            intro v2 w2 ho2 hg2
            have HO3 := hid (show w2.ownsRow ws.heap.size 5 1 v2 (ys ++ [vz[j]]).length (u8s (ys ++ [vz[j]])) by simpa [u8s] using ho2)
            have HB3 := hid (own_next8 (HBY.out.alloc HBY.out.size _) (by have := HBY.out.size; simp; omega) (HOY.out.alloc _) hg2)
            clear ho2 hg2 d0
            go_wp2_with fail
            go_roundw
            case rel => exact ⟨j, ys ++ [vz[j]], v2, by go_num, by omega, rfl, by simp; omega, HO3, HB3, HE2⟩
            case measure => first | (simp [intOf]; done) | (simp [intOf]; omega)

      case neg =>
        have gn : (n == 0) = false := by simp [hn0]
        by_cases hneg : n < 0
        case pos =>
          go_wp2_with (at_builtin; refine wpList_append_byte rfl _ _ rfl w.heap.size _ zs 45 45 (by decide) ⟨wr.heap.size, 0, none⟩ rfl rfl (HO.out.alloc _) (one8_new _ _ _) ?q1 ?q2 ?_)
          case q1 => omega
          case q2 => have := HB.out.size; simp; omega
          intro vo ws ho2 hg2
          have HO2 := hid (show ws.ownsRow w.heap.size 5 1 vo (zs ++ [45]).length (u8s (zs ++ [45])) by simpa [u8s] using ho2)
          have HB2 := hid (own_next8 (HB.out.alloc HB.out.size _) (by have := HB.out.size; simp; omega) (HO.out.alloc _) hg2)
          clear ho2 hg2
          obtain ⟨vz, hvz⟩ : ∃ l, zs ++ [45] = l := ⟨_, rfl⟩
          have HI := hid (show vz.reverse = Lib.itoa n by rw [← hvz, ← rdec_reverse]; unfold rdec; rw [if_neg hn0, if_pos hneg, HL.out]; simp)
          have hvl : vz.length ≤ 22 := by rw [← hvz]; simp; omega
          rw [hvz] at HO2
          clear hvz
          have HBK1 := hid ((Below.refl ws.heap.size ws).alloc (Nat.le_refl _) (.cells #[] 5))
          have HOK1 := hid (show (ws.alloc (.cells #[] 5)).ownsRow ws.heap.size 5 1 (.slice (some ⟨ws.heap.size, 0, none⟩) 0 0) ([] : List UInt8).length (u8s []) from World.ownsRow_made ws #[] 0 (Nat.le_refl _) (by simp [maxLen]) rfl)
          obtain ⟨g, cap, rfl, hgl, hgc⟩ := own8_slice HO2.out (by intro h; have := HI.out; rw [h] at this; exact itoa_ne_nil n this.symm)
          have HGC := hid hgc
          clear hgc HO
          go_wp2_with fail
          go_loopw [6, 7] (fun b i wk => ∃ (j : Nat) (ys : List UInt8) (v0 : Value), i = .int .i64 ((j : Int) - 1) ∧ j ≤ vz.length ∧ v0 = b ∧ ys.length + j = vz.length ∧ Hid (wk.ownsRow ws.heap.size 5 1 v0 ys.length (u8s ys)) ∧ Hid (Below ws.heap.size ws wk) ∧ Hid (Lib.itoa n = ys ++ (vz.take j).reverse)) (fun _ i _ => (intOf i + 1).toNat)
          case atStart => exact ⟨vz.length, [], _, by go_num, Nat.le_refl _, rfl, by simp, HOK1, HBK1, hid (by rw [List.take_length]; exact HI.out.symm)⟩
          case round =>
            obtain ⟨j, ys, v0, rfl, hj, rfl, hyl, HOY, HBY, HEY⟩ := hrel
            by_cases hj0 : j = 0
            case pos =>
              subst hj0
              have hcv := own8_string HOY.out
              have HP := hid (show Says w (Lib.itoa n) (.returned (.string ⟨ys.toArray⟩)) wr from ⟨by rw [HEY.out]; simp, HB2.out.trans (HBY.out.mono HB2.out.size)⟩)
              go_wp2_with fail
              go_ret
              exact HP.out
            case neg =>
              obtain ⟨j, rfl⟩ : ∃ i, j = i + 1 := ⟨j - 1, by omega⟩
              have hgj := HGC.out j (by omega)
              have d0 := (HBY.out.cell (p := ⟨g, j, none⟩) hgl).trans hgj
              have HE2 := hid (show Lib.itoa n = (ys ++ [vz[j]]) ++ (vz.take j).reverse by rw [HEY.out, List.take_succ_eq_append_getElem (by omega)]; simp)
              have ej : ((j + 1 : Nat) : Int) - 1 = j := by omega
              rw [ej]
              clear hgj ej hj0
              go_wp2_with (at_builtin; refine wpList_append_byte rfl _ _ rfl ws.heap.size _ ys vz[j] _ rfl ⟨wr.heap.size, 0, none⟩ rfl rfl (HOY.out.alloc _) (one8_new _ _ _) ?qq1 ?qq2 ?_)
              case qq1 => omega
              case qq2 => have := HBY.out.size; simp; omega
              intro v2 w2 ho2 hg2
              have HO3 := hid (show w2.ownsRow ws.heap.size 5 1 v2 (ys ++ [vz[j]]).length (u8s (ys ++ [vz[j]])) by simpa [u8s] using ho2)
              have HB3 := hid (own_next8 (HBY.out.alloc HBY.out.size _) (by have := HBY.out.size; simp; omega) (HOY.out.alloc _) hg2)
              clear ho2 hg2 d0
              go_wp2_with fail
              go_roundw
              case rel => exact ⟨j, ys ++ [vz[j]], v2, by go_num, by omega, rfl, by simp; omega, HO3, HB3, HE2⟩
              case measure => first | (simp [intOf]; done) | (simp [intOf]; omega)

        case neg =>
          have HO2 := HO
          have HB2 := HB
          obtain ⟨ws, hws⟩ : ∃ x, x = wr := ⟨_, rfl⟩
          subst hws
          obtain ⟨vz, hvz⟩ : ∃ l, zs = l := ⟨_, rfl⟩
          have HI := hid (show vz.reverse = Lib.itoa n by rw [← hvz, ← rdec_reverse]; unfold rdec; rw [if_neg hn0, if_neg hneg, HL.out]; simp)
          have hvl : vz.length ≤ 22 := by rw [← hvz]; omega
          rw [hvz] at HO2
          clear hvz
          have HBK1 := hid ((Below.refl ws.heap.size ws).alloc (Nat.le_refl _) (.cells #[] 5))
          have HOK1 := hid (show (ws.alloc (.cells #[] 5)).ownsRow ws.heap.size 5 1 (.slice (some ⟨ws.heap.size, 0, none⟩) 0 0) ([] : List UInt8).length (u8s []) from World.ownsRow_made ws #[] 0 (Nat.le_refl _) (by simp [maxLen]) rfl)
          obtain ⟨g, cap, rfl, hgl, hgc⟩ := own8_slice HO2.out (by intro h; have := HI.out; rw [h] at this; exact itoa_ne_nil n this.symm)
          have HGC := hid hgc
          clear hgc HO
          go_wp2_with fail
          go_loopw [6, 7] (fun b i wk => ∃ (j : Nat) (ys : List UInt8) (v0 : Value), i = .int .i64 ((j : Int) - 1) ∧ j ≤ vz.length ∧ v0 = b ∧ ys.length + j = vz.length ∧ Hid (wk.ownsRow ws.heap.size 5 1 v0 ys.length (u8s ys)) ∧ Hid (Below ws.heap.size ws wk) ∧ Hid (Lib.itoa n = ys ++ (vz.take j).reverse)) (fun _ i _ => (intOf i + 1).toNat)
          case atStart => exact ⟨vz.length, [], _, by go_num, Nat.le_refl _, rfl, by simp, HOK1, HBK1, hid (by rw [List.take_length]; exact HI.out.symm)⟩
          case round =>
            obtain ⟨j, ys, v0, rfl, hj, rfl, hyl, HOY, HBY, HEY⟩ := hrel
            by_cases hj0 : j = 0
            case pos =>
              subst hj0
              have hcv := own8_string HOY.out
              have HP := hid (show Says w (Lib.itoa n) (.returned (.string ⟨ys.toArray⟩)) wr from ⟨by rw [HEY.out]; simp, HB2.out.trans (HBY.out.mono HB2.out.size)⟩)
              go_wp2_with fail
              go_ret
              exact HP.out
            case neg =>
              obtain ⟨j, rfl⟩ : ∃ i, j = i + 1 := ⟨j - 1, by omega⟩
              have hgj := HGC.out j (by omega)
              have d0 := (HBY.out.cell (p := ⟨g, j, none⟩) hgl).trans hgj
              have HE2 := hid (show Lib.itoa n = (ys ++ [vz[j]]) ++ (vz.take j).reverse by rw [HEY.out, List.take_succ_eq_append_getElem (by omega)]; simp)
              have ej : ((j + 1 : Nat) : Int) - 1 = j := by omega
              rw [ej]
              clear hgj ej hj0
              go_wp2_with (at_builtin; refine wpList_append_byte rfl _ _ rfl ws.heap.size _ ys vz[j] _ rfl ⟨wr.heap.size, 0, none⟩ rfl rfl (HOY.out.alloc _) (one8_new _ _ _) ?rr1 ?rr2 ?_)
              case rr1 => omega
              case rr2 => have := HBY.out.size; simp; omega
              intro v2 w2 ho2 hg2
              have HO3 := hid (show w2.ownsRow ws.heap.size 5 1 v2 (ys ++ [vz[j]]).length (u8s (ys ++ [vz[j]])) by simpa [u8s] using ho2)
              have HB3 := hid (own_next8 (HBY.out.alloc HBY.out.size _) (by have := HBY.out.size; simp; omega) (HOY.out.alloc _) hg2)
              clear ho2 hg2 d0
              go_wp2_with fail
              go_roundw
              case rel => exact ⟨j, ys ++ [vz[j]], v2, by go_num, by omega, rfl, by simp; omega, HO3, HB3, HE2⟩
              case measure => first | (simp [intOf]; done) | (simp [intOf]; omega)
    case neg =>
      obtain ⟨hm1, hm2⟩ := HR.out
      have hzl : zs.length + 1 ≤ 20 := by
        have h := HLN.out
        rw [HE.out, rdg_pos (by omega)] at h
        simp only [List.length_append, List.length_cons] at h
        omega
      by_cases hp : 0 < m
      case pos =>
        obtain ⟨t, ht⟩ : ∃ t : Nat, m % 10 = (t : Int) := ⟨(m % 10).toNat, by omega⟩
        have ht9 : t ≤ 9 := by omega
        have htm : m.natAbs % 10 = t := by omega
        have gp : (m != 0) = true := by simp [h0]
        have HQR := hid (show -9223372036854775808 ≤ m / 10 ∧ m / 10 ≤ 9223372036854775807 by omega)
        have HE2 := hid (show rdg n.natAbs = (zs ++ [dgt m.natAbs]) ++ rdg (m / 10).natAbs by rw [HE.out, rdg_pos (by omega), show m.natAbs / 10 = (m / 10).natAbs by omega]; simp)
        have hdg := dgt_toNat m.natAbs
        rw [htm] at hdg
        clear h0 htm
        go_wp2_with (at_builtin; refine wpList_append_byte rfl _ _ rfl w.heap.size _ zs (dgt m.natAbs) _ ?a1 ⟨wr.heap.size, 0, none⟩ rfl rfl (HO.out.alloc _) (one8_new _ _ _) ?a2 ?a3 ?_)
        case a1 => omega
        case a2 => omega
        case a3 => have := HB.out.size; simp; omega
        intro v2 w2 ho2 hg2
        have HO2 := hid (show w2.ownsRow w.heap.size 5 1 v2 (zs ++ [dgt m.natAbs]).length (u8s (zs ++ [dgt m.natAbs])) by simpa [u8s, hdg] using ho2)
        have HB2 := hid (own_next8 (HB.out.alloc HB.out.size _) (by have := HB.out.size; simp; omega) (HO.out.alloc _) hg2)
        clear ho2 hg2
        go_wp2_with fail
        go_roundw
        case rel => exact ⟨m / 10, zs ++ [dgt m.natAbs], v2, rfl, rfl, HQR, HO2, HB2, HE2⟩
        case measure => first | (simp [intOf]; done) | (simp [intOf]; omega)
      case neg =>
        obtain ⟨u, hu⟩ : ∃ u : Nat, m = -(u : Int) := ⟨m.natAbs, by omega⟩
        have hq0 : m.tdiv 10 = -((u / 10 : Nat) : Int) := by rw [hu]; exact tdiv_nat u
        have ht0 : m.tmod 10 = -((u % 10 : Nat) : Int) := by rw [hu]; exact tmod_nat u
        obtain ⟨q, hq⟩ : ∃ q, m.tdiv 10 = q := ⟨_, rfl⟩
        obtain ⟨t, ht⟩ : ∃ t : Nat, m.tmod 10 = -(t : Int) := ⟨u % 10, ht0⟩
        have hqq : q = -((u / 10 : Nat) : Int) := hq.symm.trans hq0
        have htt : t = u % 10 := by rw [ht0] at ht; omega
        clear hq0 ht0
        have ht9 : t ≤ 9 := by omega
        have htm : m.natAbs % 10 = t := by omega
        have hm3 : m < 0 := by omega
        have hq1 : -922337203685477580 ≤ q := by omega
        have hq2 : q ≤ 0 := by omega
        have hqm : q.natAbs < m.natAbs := by omega
        have HQR := hid (show -9223372036854775808 ≤ q ∧ q ≤ 9223372036854775807 by omega)
        have HE2 := hid (show rdg n.natAbs = (zs ++ [dgt m.natAbs]) ++ rdg q.natAbs by rw [HE.out, rdg_pos (by omega), show m.natAbs / 10 = q.natAbs by omega]; simp)
        have hdg := dgt_toNat m.natAbs
        rw [htm] at hdg
        clear h0 hp htm hu hqq htt
        by_cases ht0 : t = 0
        case pos =>
          subst ht0
          go_wp2_with (at_builtin; refine wpList_append_byte rfl _ _ rfl w.heap.size _ zs (dgt m.natAbs) _ ?b1 ⟨wr.heap.size, 0, none⟩ rfl rfl (HO.out.alloc _) (one8_new _ _ _) ?b2 ?b3 ?_)
          case b1 => omega
          case b2 => omega
          case b3 => have := HB.out.size; simp; omega
          intro v2 w2 ho2 hg2
          have HO2 := hid (show w2.ownsRow w.heap.size 5 1 v2 (zs ++ [dgt m.natAbs]).length (u8s (zs ++ [dgt m.natAbs])) by simpa [u8s, hdg] using ho2)
          have HB2 := hid (own_next8 (HB.out.alloc HB.out.size _) (by have := HB.out.size; simp; omega) (HO.out.alloc _) hg2)
          clear ho2 hg2
          go_wp2_with fail
          go_roundw
          case rel => exact ⟨q, zs ++ [dgt m.natAbs], v2, rfl, rfl, HQR, HO2, HB2, HE2⟩
          case measure => first | (simp [intOf]; done) | (simp [intOf]; omega)

        case neg =>
          go_wp2_with (at_builtin; refine wpList_append_byte rfl _ _ rfl w.heap.size _ zs (dgt m.natAbs) _ ?c1 ⟨wr.heap.size, 0, none⟩ rfl rfl (HO.out.alloc _) (one8_new _ _ _) ?c2 ?c3 ?_)
          case c1 => omega
          case c2 => omega
          case c3 => have := HB.out.size; simp; omega
          intro v2 w2 ho2 hg2
          have HO2 := hid (show w2.ownsRow w.heap.size 5 1 v2 (zs ++ [dgt m.natAbs]).length (u8s (zs ++ [dgt m.natAbs])) by simpa [u8s, hdg] using ho2)
          have HB2 := hid (own_next8 (HB.out.alloc HB.out.size _) (by have := HB.out.size; simp; omega) (HO.out.alloc _) hg2)
          clear ho2 hg2
          go_wp2_with fail
          go_roundw
          case rel => exact ⟨q, zs ++ [dgt m.natAbs], v2, rfl, rfl, HQR, HO2, HB2, HE2⟩
          case measure => first | (simp [intOf]; done) | (simp [intOf]; omega)

end Go.Proofs.YtikhofcjkcbpbaaDoor
