/- Walks: lists of names that a call makes. No condition. -/
import Derived.Test.YtgpefnlpbjnjbaaNm
import Derived.Test.YtgpefnlpbjnjbaaToSc
import Derived.Lib.AppendZeros
import Derived.Laws.OwnMore
import Derived.Deep.AppendLies
namespace Go.Proofs.Ytgpefnlpbjnjbaa
open Go.ChangeShapes Go.WideShapes Go.ChangeAt Go.RowKit Go.BigFrame
open Go.Sort (grow)
set_option linter.unusedVariables false

theorem StrsL.of_own {w : World} {B : Nat} {e : TypeId} {v : Value} {xs : List ByteArray} (h : w.ownsRow B e 1 v xs.length (xs.map Value.string)) : StrsL w xs v := by
  rcases h.2 with ⟨rfl, hn⟩ | ⟨g, cap, cur, rfl, hB, hg, hnc, hcm, hcs, htake⟩
  · exact ⟨none, 0, by rw [hn], by omega, by omega, fun hp => absurd hn (by omega)⟩
  · refine ⟨_, cap, rfl, hnc, by simp only [maxLen] at hcm; omega, fun _ => ⟨g, 0, rfl, (Array.getElem?_eq_some_iff.1 hg).1, fun i s hi => ?_⟩⟩
    have := h.cells rfl i (.string s) (by rw [List.getElem?_map, hi]; rfl)
    rw [Addr.add_lit, Nat.zero_add] at this
    rw [Nat.zero_add]
    exact this
/-- Nothing is appended. -/
theorem run_append_empty {P : Program} (w : World) (base : Nat) (t ty e : TypeId) (i : TypeInfo) (size : Nat) (ht : P.underlying t = some (.slice e)) (hi : P.info? e = some i)
    (v : Value) (n : Nat) (xs : List Value) (hown : w.ownsRow base e size v n xs) (ao : Option Addr) (c : Nat) :
    (Builtin.append_ #[t, t] ty #[v, .slice ao 0 c]).run P w = .ok v w := by
  rcases hown.2 with ⟨rfl, rfl⟩ | ⟨g, cap, cur, rfl, _, _, hnc, _⟩
  · cases ao <;> simp [Builtin.append_, run_underlying ht, sizeOf, typeInfo, hi, Builtin.lenOf, Builtin.firstCells, loadCells, loadCellsFrom]
  · cases ao <;> simp [Builtin.append_, run_underlying ht, sizeOf, typeInfo, hi, Builtin.lenOf, Builtin.firstCells, loadCells, loadCellsFrom, hnc, storeCells]
theorem wpList_append_empty {P : Program} {w : World} {ops : Array Oper} {rest : List Oper} {o : Oper} {a : Act} {Q : Exit → Act → World → Prop} (hgd : o.guard = none) (s x : Operand) (t : TypeId)
    (ho : o.op = .call { callee := .builtin .append, args := #[s, x], argTypes := #[t, t] })
    (base : Nat) (e : TypeId) (i : TypeInfo) (size : Nat) (ht : P.underlying t = some (.slice e)) (hi : P.info? e = some i)
    (v : Value) (n : Nat) (xs : List Value) (hs : a.eval s = v) (hown : w.ownsRow base e size v n xs) (ao : Option Addr) (c : Nat) (hx : a.eval x = .slice ao 0 c)
    (h : wpList P ops Q rest (a.put o.dst v) w) : wpList P ops Q (o :: rest) a w := by
  refine wpList_plain hgd fun K hK => ?_
  have hrun := run_append_empty (P := P) w base t o.type e i size ht hi v n xs hown ao c
  unfold Oper.wp
  simp [execOp, ho, resolve, invoke, builtin, hs, hx, hrun, Result.andThen]
  exact hK _ _ h
/-- A list of names appended to one of the call's own. -/
theorem wpList_append_names {w : World} {ops : Array Oper} {rest : List Oper} {o : Oper} {a : Act} {Q : Exit → Act → World → Prop} (hgd : o.guard = none) (s x : Operand)
    (ho : o.op = .call { callee := .builtin .append, args := #[s, x], argTypes := #[47, 47] })
    (base : Nat) (v : Value) (zs ns : List ByteArray) (vx : Value) (hs : a.eval s = v) (hx : a.eval x = vx) (hown : w.ownsRow base 9 1 v zs.length (zs.map Value.string)) (hL : StrsL w ns vx)
    (h63 : zs.length + ns.length ≤ 4194304) (hbase : base ≤ w.heap.size)
    (hK : ∀ v' w', w'.ownsRow base 9 1 v' (zs ++ ns).length ((zs ++ ns).map Value.string) → w.grownBy w' v.ownBlock → wpList Try.prog ops Q rest (a.put o.dst v') w') : wpList Try.prog ops Q (o :: rest) a w := by
  obtain ⟨i0, hi, hz0, hz1, hz2⟩ := info_parts infoSr
  obtain ⟨ao, c, rfl, h2, h3, h4⟩ := hL
  by_cases hn : ns = []
  case pos =>
    subst hn
    refine wpList_append_empty hgd s x _ ho base 9 i0 1 Try.underlying47 hi v _ _ hs hown ao c (by simpa using hx) ?_
    exact hK v w (by simpa using hown) ⟨rfl, rfl, rfl, Nat.le_refl _, fun k _ _ => rfl⟩
  case neg =>
    obtain ⟨b, o', rfl, hb, hc⟩ := h4 (List.length_pos_iff.2 hn)
    refine wpList_append_own w hgd s x _ ho base 9 i0 _ 1 16 Try.underlying47 hi hz0 hz1 hz2 rfl (by decide) v _ _ hs hown ⟨b, o', none⟩ ns.length c (ns.map Value.string) hx (by simp) (fun j u hj => ?_) (fun u hu => ?_) (by simp only [maxLen]; omega) (by omega) hbase (fun v' w' h5 h6 _ => hK v' w' (by simpa using h5) h6)
    · rw [List.getElem?_map] at hj
      obtain ⟨s', hs', rfl⟩ := Option.map_eq_some_iff.1 hj
      rw [Addr.add_lit]
      exact hc j s' hs'
    · obtain ⟨s', _, rfl⟩ := List.mem_map.1 hu
      rfl
/-- .. and where the new list lies. -/
theorem wpList_append_namesF {w : World} {ops : Array Oper} {rest : List Oper} {o : Oper} {a : Act} {Q : Exit → Act → World → Prop} (hgd : o.guard = none) (s x : Operand)
    (ho : o.op = .call { callee := .builtin .append, args := #[s, x], argTypes := #[47, 47] })
    (base : Nat) (v : Value) (zs ns : List ByteArray) (vx : Value) (hs : a.eval s = v) (hx : a.eval x = vx) (hown : w.ownsRow base 9 1 v zs.length (zs.map Value.string)) (hL : StrsL w ns vx)
    (hp : 0 < ns.length) (h63 : zs.length + ns.length ≤ 4194304) (hbase : base ≤ w.heap.size)
    (hK : ∀ v' w', w'.ownsRow base 9 1 v' (zs ++ ns).length ((zs ++ ns).map Value.string) → w.grownBy w' v.ownBlock → (∀ g, v'.ownBlock = some g → v.ownBlock = some g ∨ w.heap.size ≤ g) → wpList Try.prog ops Q rest (a.put o.dst v') w') : wpList Try.prog ops Q (o :: rest) a w := by
  obtain ⟨i0, hi, hz0, hz1, hz2⟩ := info_parts infoSr
  obtain ⟨ao, c, rfl, h2, h3, h4⟩ := hL
  obtain ⟨b, o', rfl, hb, hc⟩ := h4 hp
  refine wpList_append_lies w hgd s x _ ho base 9 i0 _ 1 16 Try.underlying47 hi hz0 hz1 hz2 rfl (by decide) v _ _ hs hown ⟨b, o', none⟩ ns.length c (ns.map Value.string) hx (by simp) (fun j u hj => ?_) (fun u hu => ?_) hp (by simp only [maxLen]; omega) (by omega) hbase w.heap.size rfl (fun g cap w' h5 h6 h7 _ => hK _ w' (by simpa using h5) h6 fun g' hg' => ?_)
  · rw [List.getElem?_map] at hj
    obtain ⟨s', hs', rfl⟩ := Option.map_eq_some_iff.1 hj
    rw [Addr.add_lit]
    exact hc j s' hs'
  · obtain ⟨s', _, rfl⟩ := List.mem_map.1 hu
    rfl
  · simp only [Value.ownBlock, Option.some.injEq] at hg'
    subst hg'
    rcases h7 with h7 | h7
    · exact .inl h7
    · exact .inr (Nat.le_of_eq h7.symm)
/-- A list of names that the call has made. -/
def NewL (w : World) (zs : List ByteArray) (e : Ending) (w' : World) : Prop := ∃ v, e = .returned v ∧ w'.ownsRow w.heap.size 9 1 v zs.length (zs.map Value.string) ∧ Below w.heap.size w w'
theorem own_next {B : Nat} {w0 w w' : World} {v : Value} {xs : List ByteArray} (hb : Below B w0 w) (hB : B ≤ w.heap.size) (ho : w.ownsRow B 9 1 v xs.length (xs.map Value.string)) (hg : w.grownBy w' v.ownBlock) : Below B w0 w' := hb.grown hg hB fun k hk => (ho.lt k hk).1
set_option maxRecDepth 100000 in
theorem with_L (sc ns : List ByteArray) (vs vn : Value) (w : World) (hL : StrsL w sc vs) (hM : StrsL w ns vn) (hn : sc.length + ns.length ≤ 4194304) :
    Calls Try.prog 122 #[vs, vn] w (NewL w (sc ++ ns)) := by
  have hb1 : Below w.heap.size w (w.alloc (.cells #[] 9)) := (Below.refl _ _).alloc (Nat.le_refl _) _
  have HB1 := hid hb1
  have HL1 := hid (hL.below hb1)
  have HM0 := hid hM
  have HO1 := hid (show (w.alloc (.cells #[] 9)).ownsRow w.heap.size 9 1 (.slice (some ⟨w.heap.size, 0, none⟩) 0 0) ([] : List ByteArray).length (([] : List ByteArray).map Value.string) from World.ownsRow_made w #[] 0 (Nat.le_refl _) (by simp [maxLen]) rfl)
  have HN := hid hn
  obtain ⟨ax, cx, rfl, -⟩ := hL
  obtain ⟨an, cn, rfl, -⟩ := hM
  clear hb1 hn
  go_enter Try.func122, Try.ntmps122
  go_wp2_with (at_builtin; refine wpList_append_names rfl _ _ rfl w.heap.size _ [] sc _ rfl rfl HO1.out HL1.out ?c1 ?c2 ?_)
  case c1 => have := HN.out; simp; omega
  case c2 => simp
  intro v1 w1 ho1 hg1
  have hb2 : Below w.heap.size w w1 := own_next (xs := []) HB1.out (by simp) HO1.out hg1
  have HM2 := hid (HM0.out.below hb2)
  have HO2 := hid ho1
  have HB2 := hid hb2
  clear hg1 ho1 hb2
  go_wp2_with (at_builtin; refine wpList_append_names rfl _ _ rfl w.heap.size _ sc ns _ rfl rfl HO2.out HM2.out ?d1 ?d2 ?_)
  case d1 => exact HN.out
  case d2 => exact HB2.out.size
  intro v2 w2 ho2 hg2
  have HP := hid (show NewL w (sc ++ ns) (.returned v2) w2 from ⟨v2, rfl, by simpa using ho2, own_next HB2.out HB2.out.size HO2.out hg2⟩)
  clear ho2 hg2
  go_wp2_with fail
  go_ret
  exact HP.out
theorem grow_L (n : Nat) (hn : n ≤ 4194304) (w : World) : Calls Try.prog 162 #[.slice none 0 0, .int .i64 n] w fun e w' => ∃ v, e = .returned v ∧ w'.ownsRow w.heap.size 9 1 v 0 [] ∧ Below w.heap.size w w' := by
  by_cases h0 : n = 0
  case pos =>
    subst h0
    go_enter Try.func162, Try.ntmps162
    go_wp2_with fail
    go_ret
    exact ⟨_, rfl, World.ownsRow_nil _ _ _ _, Below.refl _ _⟩
  case neg =>
    obtain ⟨i0, hi, hz0, hz1, hz2⟩ := info_parts infoSr
    have hr := fun ty => Lib.run_append_nil_zeros (P := Try.prog) w 47 3 ty 9 i0 _ .i64 .i64 Try.underlying47 Try.underlying3 hi hz0 n (by omega) (by rw [hz1]; decide) (by omega) (by rw [hz2]; omega)
    have hge := grownCap_ge w n 0 9
    have hcm := grownCap_le_maxLen w n 0 9 (by simp only [maxLen]; omega)
    generalize grownCap w n 0 9 = cap at hr hge hcm
    have hcs : (Builtin.zeroCells (Value.cells (.string ⟨#[]⟩)) n ++ Builtin.zeroCells (Value.cells (.string ⟨#[]⟩)) (cap - n)).size = cap * 1 := by
      rw [Array.size_append, size_zeroCells, size_zeroCells]; simp [Value.cells]; omega
    generalize hC : Builtin.zeroCells (Value.cells (.string ⟨#[]⟩)) n ++ Builtin.zeroCells (Value.cells (.string ⟨#[]⟩)) (cap - n) = C at hr hcs
    have HP := hid (World.ownsRow_made (base := w.heap.size) (e := 9) (size := 1) w.drew C cap (Nat.le_refl _) hcm hcs)
    have HB := hid ((Below.refl w.heap.size w).drew.alloc (Nat.le_refl _) (.cells C 9))
    have HR := hid hr
    have hcap : cap ≤ 9223372036854775807 := by simp only [maxLen] at hcm; omega
    have g0 : decide ((n : Int) ≤ 0) = false := decide_eq_false (by omega)
    have g1 : decide (0 < n) = true := decide_eq_true (by omega)
    clear hC hr hi hz0 hz1 hz2 hcm hcs h0
    go_enter Try.func162, Try.ntmps162
    go_wp2_with (at_builtin; refine Lib.wpList_append_run _ rfl _ _ _ _ rfl _ _ rfl rfl _ _ (HR.out _) ?_)
    go_wp2_with fail
    go_ret
    exact ⟨_, rfl, HP.out, HB.out⟩
set_option maxRecDepth 100000 in
set_option maxHeartbeats 1000000 in
theorem concat_L (sc ns : List ByteArray) (vs vn : Value) (B : Nat) (w : World) (x0 : w.cell? ⟨B, 0, none⟩ = some vs) (x1 : w.cell? ⟨B, 1, none⟩ = some vn) (hL : StrsL w sc vs) (hM : StrsL w ns vn) (hn : sc.length + ns.length ≤ 4194304) :
    Calls Try.prog 127 #[.slice (some ⟨B, 0, none⟩) 2 2] w (NewL w (sc ++ ns)) := by
  have HL0 := hid hL
  have HM0 := hid hM
  have HN := hid hn
  have hG := grow_L (sc.length + ns.length) hn w
  have HG := hid hG
  obtain ⟨ax, cx, rfl, -⟩ := hL
  obtain ⟨an, cn, rfl, -⟩ := hM
  have X0 := hid x0
  have X1 := hid x1
  have XL := hid (World.block_lt_of_cell? _ _ x0)
  clear hG
  go_enter Try.func127, Try.ntmps127
  go_wp2_with fail
  go_loopw [3, 11] (fun s i wr => ∃ j m : Nat, Hid (j = 0 ∧ m = 0 ∨ j = 1 ∧ m = sc.length ∨ j = 2 ∧ m = sc.length + ns.length) ∧ s = .int .i64 m ∧ i = .int .i64 j ∧ w = wr) (fun _ i _ => 2 - (intOf i).toNat)
  case atStart => exact ⟨0, 0, .inl ⟨rfl, rfl⟩, rfl, rfl, rfl⟩
  case round =>
    obtain ⟨j, m, HJ, rfl, rfl, rfl⟩ := hrel
    rcases HJ.out with ⟨hj, hm⟩ | ⟨hj, hm⟩ | ⟨hj, hm⟩
    · subst hj hm
      clear HJ x1
      go_wp2_with fail
      go_roundw
      case rel => exact ⟨1, sc.length, .inr (.inl ⟨rfl, rfl⟩), by go_num, by go_num, by first | rfl | trivial⟩
      case measure => simp [intOf]
    · subst hj hm
      clear HJ x0
      go_wp2_with fail
      go_roundw
      case rel => exact ⟨2, sc.length + ns.length, .inr (.inr ⟨rfl, rfl⟩), by go_num, by go_num, by first | rfl | trivial⟩
      case measure => simp [intOf]
    · subst hj hm
      clear HJ x0 x1
      go_wp2_with fail
      refine HG.out.mono ?_
      rintro e w1 ⟨v1, rfl, ho1, hb1⟩
      have HO1 := hid ho1
      have HB1 := hid hb1
      clear ho1 hb1 HG
      go_wp2_with fail
      go_loopw [6, 27] (fun v i wr => ∃ (j : Nat) (zs : List ByteArray) (v0 : Value), Hid (j = 0 ∧ zs = [] ∨ j = 1 ∧ zs = sc ∨ j = 2 ∧ zs = sc ++ ns) ∧ i = .int .i64 j ∧ v0 = v ∧ Hid (wr.ownsRow w.heap.size 9 1 v0 zs.length (zs.map Value.string)) ∧ Hid (Below w.heap.size w wr)) (fun _ i _ => 2 - (intOf i).toNat)
      case atStart => exact ⟨0, [], v1, .inl ⟨rfl, rfl⟩, rfl, rfl, HO1, HB1⟩
      case round =>
        obtain ⟨j, zs, v0, HJ, rfl, rfl, HO, HB⟩ := hrel
        rcases HJ.out with ⟨hj, hm⟩ | ⟨hj, hm⟩ | ⟨hj, hm⟩
        · subst hj
          have HLr := hid (HL0.out.below HB.out)
          have y0 := (HB.out.cell (p := ⟨B, 0, none⟩) XL.out).trans X0.out
          go_wp2_with (at_builtin; refine wpList_append_names rfl _ _ rfl w.heap.size _ zs sc _ rfl rfl HO.out HLr.out ?c1 ?c2 ?_)
          case c1 => have := HN.out; subst hm; simp; omega
          case c2 => exact HB.out.size
          intro v2 w2 ho2 hg2
          subst hm
          have HO2 := hid ho2
          have HB2 := hid (own_next HB.out HB.out.size HO.out hg2)
          clear ho2 hg2 y0 HJ
          go_wp2_with fail
          go_roundw
          case rel => exact ⟨1, sc, _, .inr (.inl ⟨rfl, rfl⟩), by go_num, rfl, HO2, HB2⟩
          case measure => simp [intOf]
        · subst hj
          have HLr := hid (HM0.out.below HB.out)
          have y0 := (HB.out.cell (p := ⟨B, 1, none⟩) XL.out).trans X1.out
          go_wp2_with (at_builtin; refine wpList_append_names rfl _ _ rfl w.heap.size _ zs ns _ rfl rfl HO.out HLr.out ?c1 ?c2 ?_)
          case c2 => exact HB.out.size
          intro v2 w2 ho2 hg2
          subst hm
          have HO2 := hid ho2
          have HB2 := hid (own_next HB.out HB.out.size HO.out hg2)
          clear ho2 hg2 y0 HJ
          go_wp2_with fail
          go_roundw
          case rel => exact ⟨2, zs ++ ns, _, .inr (.inr ⟨rfl, rfl⟩), by go_num, rfl, hid (by simpa using HO2.out), HB2⟩
          case measure => simp [intOf]
        · subst hj hm
          have HP := hid (show NewL w (sc ++ ns) (.returned v0) wr from ⟨v0, rfl, HO.out, HB.out⟩)
          clear HO HB HJ
          go_wp2_with fail
          go_ret
          exact HP.out
end Go.Proofs.Ytgpefnlpbjnjbaa
