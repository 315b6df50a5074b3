/- Walks: a copy of a list of numbers: l00Own, slices.Clone. No condition. -/
import Derived.Test.YtejdbmeoaekhcaaToSc
import Derived.Test.YtejdbmeoaekhcaaKeep
import Derived.Laws.OwnMore
import Derived.Lib.AppendZeros
import Derived.Lib.SliceRun
import Derived.Deep.AppendLies
namespace Go.Proofs.Ytejdbmeoaekhcaa
open Go.ChangeShapes Go.WideShapes Go.ChangeAt Go.RowKit
set_option linter.unusedVariables false

/-- Nothing is appended. -/
theorem run_append_empty {P : Program} (w : World) (base : Nat) (t ty e : TypeId) (i : TypeInfo) (size : Nat) (ht : P.underlying t = some (.slice e)) (hi : P.info? e = some i)
    (v : Value) (n : Nat) (xs : List Value) (hown : w.ownsRow base e size v n xs) (ao : Option Addr) (c : Nat) :
    (Builtin.append_ #[t, t] ty #[v, .slice ao 0 c]).run P w = .ok v w := by
  rcases hown.2 with ⟨rfl, rfl⟩ | ⟨g, cap, cur, rfl, _, _, hnc, _⟩
  · cases ao <;> simp [Builtin.append_, run_underlying ht, sizeOf, typeInfo, hi, Builtin.lenOf, Builtin.firstCells, loadCells, loadCellsFrom]
  · cases ao <;> simp [Builtin.append_, run_underlying ht, sizeOf, typeInfo, hi, Builtin.lenOf, Builtin.firstCells, loadCells, loadCellsFrom, hnc, storeCells]
theorem wpList_append_empty {P : Program} {w : World} {ops : Array Oper} {rest : List Oper} {o : Oper} {a : Act} {Q : Exit → Act → World → Prop} (hgd : o.guard = none) (s x : Operand) (t : TypeId)
    (ho : o.op = .call { callee := .builtin .append, args := #[s, x], argTypes := #[t, t] })
    (base : Nat) (e : TypeId) (i : TypeInfo) (size : Nat) (ht : P.underlying t = some (.slice e)) (hi : P.info? e = some i)
    (v : Value) (n : Nat) (xs : List Value) (hs : a.eval s = v) (hown : w.ownsRow base e size v n xs) (ao : Option Addr) (c : Nat) (hx : a.eval x = .slice ao 0 c)
    (h : wpList P ops Q rest (a.put o.dst v) w) : wpList P ops Q (o :: rest) a w := by
  refine wpList_plain hgd fun K hK => ?_
  have hrun := run_append_empty (P := P) w base t o.type e i size ht hi v n xs hown ao c
  unfold Oper.wp
  simp [execOp, ho, resolve, invoke, builtin, hs, hx, hrun, Result.andThen]
  exact hK _ _ h
theorem info64u : (Try.prog.info? 2).map (fun i => (i.zero, i.size, i.bytes)) = some (some (.int .i64 0), 1, 8) := by kernel_rfl
def NewI (w : World) (zs : List Int) (e : Ending) (w' : World) : Prop := ∃ v, e = .returned v ∧ w'.ownsRow w.heap.size 2 1 v zs.length (zs.map (Value.int .i64)) ∧ Below w.heap.size w w'
theorem own_nextI {B : Nat} {w0 w w' : World} {v : Value} {xs : List Int} (hb : Below B w0 w) (hB : B ≤ w.heap.size) (ho : w.ownsRow B 2 1 v xs.length (xs.map (Value.int .i64))) (hg : w.grownBy w' v.ownBlock) : Below B w0 w' := hb.grown hg hB fun k hk => (ho.lt k hk).1
theorem wpList_append_ints {w : World} {ops : Array Oper} {rest : List Oper} {o : Oper} {a : Act} {Q : Exit → Act → World → Prop} (hgd : o.guard = none) (s x : Operand)
    (ho : o.op = .call { callee := .builtin .append, args := #[s, x], argTypes := #[25, 25] })
    (base : Nat) (v : Value) (zs ns : List Int) (vx : Value) (hs : a.eval s = v) (hx : a.eval x = vx) (hown : w.ownsRow base 2 1 v zs.length (zs.map (Value.int .i64))) (hL : RdL w (In.ds ns) vx)
    (h63 : zs.length + ns.length ≤ 4194304) (hbase : base ≤ w.heap.size)
    (hK : ∀ v' w', w'.ownsRow base 2 1 v' (zs ++ ns).length ((zs ++ ns).map (Value.int .i64)) → w.grownBy w' v.ownBlock → wpList Try.prog ops Q rest (a.put o.dst v') w') : wpList Try.prog ops Q (o :: rest) a w := by
  obtain ⟨i0, hi, hz0, hz1, hz2⟩ := info_parts info64u
  obtain ⟨ao, c, rfl, h2, h3, h4⟩ := hL.eIn
  by_cases hn : ns = []
  case pos =>
    subst hn
    refine wpList_append_empty hgd s x _ ho base 2 i0 1 Try.underlying25 hi v _ _ hs hown ao c (by simpa using hx) ?_
    exact hK v w (by simpa using hown) ⟨rfl, rfl, rfl, Nat.le_refl _, fun k _ _ => rfl⟩
  case neg =>
    obtain ⟨b, o', rfl, hb, hc⟩ := h4 (List.length_pos_iff.2 hn)
    refine wpList_append_own w hgd s x _ ho base 2 i0 _ 1 8 Try.underlying25 hi hz0 hz1 hz2 rfl (by decide) v _ _ hs hown ⟨b, o', none⟩ ns.length c (ns.map (Value.int .i64)) hx (by simp) (fun j u hj => ?_) (fun u hu => ?_) (by simp only [maxLen]; omega) (by omega) hbase (fun v' w' h5 h6 _ => hK v' w' (by simpa using h5) h6)
    · rw [List.getElem?_map] at hj
      obtain ⟨s', hs', rfl⟩ := Option.map_eq_some_iff.1 hj
      rw [Addr.add_lit]
      exact (hc j s' hs').1
    · obtain ⟨s', _, rfl⟩ := List.mem_map.1 hu
      rfl
set_option maxRecDepth 100000 in
theorem spec_OwnI (xs : List Int) (v : Value) (w : World) (hl : xs.length ≤ 1048577) (hr : RdL w (In.ds xs) v) : Calls Try.prog 76 #[v] w (NewI w xs) := by
  have hb1 : Below w.heap.size w (w.alloc (.cells #[] 2)) := (Below.refl _ _).alloc (Nat.le_refl _) _
  have HB1 := hid hb1
  have HR1 := hid (hr.below hb1)
  have HO1 := hid (show (w.alloc (.cells #[] 2)).ownsRow w.heap.size 2 1 (.slice (some ⟨w.heap.size, 0, none⟩) 0 0) ([] : List Int).length (([] : List Int).map (Value.int .i64)) from World.ownsRow_made w #[] 0 (Nat.le_refl _) (by simp [maxLen]) rfl)
  have HL := hid hl
  obtain ⟨a, c, rfl, -⟩ := hr.eIn
  clear hb1 hr hl
  go_enter Try.func76, Try.ntmps76
  go_wp2_with (at_builtin; refine wpList_append_ints rfl _ _ rfl w.heap.size _ [] xs _ rfl rfl HO1.out HR1.out ?c1 ?c2 ?_)
  case c1 => have := HL.out; simp; omega
  case c2 => simp
  intro v2 w2 ho2 hg2
  have HP := hid (show NewI w xs (.returned v2) w2 from ⟨v2, rfl, by simpa using ho2, own_nextI HB1.out HB1.out.size HO1.out hg2⟩)
  clear ho2 hg2
  go_wp2_with fail
  go_ret
  exact HP.out
theorem NewI.gives {w w' : World} {xs : List Int} {e : Ending} (h : NewI w xs e w') (hx : ∀ x ∈ xs, -9223372036854775808 ≤ x ∧ x ≤ 9223372036854775807) : GivesIns xs w e w' := by
  obtain ⟨v, rfl, ho, hb⟩ := h
  obtain ⟨F, h1, h2⟩ := Rd.of_own ho (by rw [In.ds_length]) (In.rdall xs hx) (Owned.nil _ _) (fun _ _ hx => by simp at hx)
  obtain ⟨a, c, rfl, -⟩ := RdL.eIn ⟨F, h1⟩
  exact ⟨a, c, rfl, ⟨F, h1, h2⟩, hb⟩
theorem RdL.rngIn {w : World} {xs : List Int} {v : Value} (h : RdL w (In.ds xs) v) : ∀ x ∈ xs, -9223372036854775808 ≤ x ∧ x ≤ 9223372036854775807 := by
  obtain ⟨a, c, _, _, _, h4⟩ := h.eIn
  intro x hx
  obtain ⟨b, o, _, _, hall⟩ := h4 (List.length_pos_of_mem hx)
  obtain ⟨j, hj⟩ := List.mem_iff_getElem?.1 hx
  exact (hall j x hj).2
theorem spec_own (xs : List Int) (v : Value) (w : World) (hl : xs.length ≤ 1048577) (hr : RdL w (In.ds xs) v) : Calls Try.prog 76 #[v] w (GivesIns xs w) :=
  (spec_OwnI xs v w hl hr).mono fun _ _ h => h.gives hr.rngIn
set_option maxRecDepth 100000 in
theorem impl_clone (xs : List Int) (v : Value) (w : World) (hl : xs.length ≤ 1048577) (hr : RdL w (In.ds xs) v) : Calls Try.prog 55 #[v] w (GivesIns xs w) := by
  have hx := hr.rngIn
  have hr0 := hr
  obtain ⟨a, c, rfl, h2, h3, h4⟩ := hr.eIn
  cases a
  case none =>
    have hz : xs = [] := by
      by_cases h : 0 < xs.length
      · obtain ⟨b, o, e, -⟩ := h4 h
        simp at e
      · exact List.eq_nil_of_length_eq_zero (by omega)
    subst hz
    have hnl := fun W : World => Lib.run_eql_slice_nil (P := Try.prog) W 25 2 none 0 c 0 0 Try.underlying25
    clear hr h4 hr0 hx
    go_enter Try.func55, Try.ntmps55
    go_wp2_with fail
    go_ret
    exact ⟨none, 0, rfl, ⟨[], Rd.nil_mk (by omega), Owned.nil _ _⟩, Below.refl _ _⟩
  case some p =>
    have hb1 : Below w.heap.size w (w.alloc (.cells #[] 2)) := (Below.refl _ _).alloc (Nat.le_refl _) _
    have HB1 := hid hb1
    have HR1 := hid (hr0.below hb1)
    have HO1 := hid (show (w.alloc (.cells #[] 2)).ownsRow w.heap.size 2 1 (.slice (some ⟨w.heap.size, 0, none⟩) 0 0) ([] : List Int).length (([] : List Int).map (Value.int .i64)) from World.ownsRow_made w #[] 0 (Nat.le_refl _) (by simp [maxLen]) rfl)
    have HL := hid hl
    have HX := hid hx
    have hnl := fun W : World => Lib.run_eql_slice_nil (P := Try.prog) W 25 2 (some p) xs.length c 0 0 Try.underlying25
    clear hb1 hr hl hr0 h2 h3 h4 hx
    go_enter Try.func55, Try.ntmps55
    go_wp2_with (at_builtin; refine wpList_append_ints rfl _ _ rfl w.heap.size _ [] xs _ rfl rfl HO1.out HR1.out ?c1 ?c2 ?_)
    case c1 => have := HL.out; simp; omega
    case c2 => simp
    intro v2 w2 ho2 hg2
    have HP := hid (NewI.gives (show NewI w xs (.returned v2) w2 from ⟨v2, rfl, by simpa using ho2, own_nextI HB1.out HB1.out.size HO1.out hg2⟩) HX.out)
    clear ho2 hg2
    go_wp2_with fail
    go_ret
    exact HP.out
end Go.Proofs.Ytejdbmeoaekhcaa
