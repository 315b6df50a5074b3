/- Walks: lists of strings that a call makes; strings.Join. No condition. -/
import Derived.Test.YtikhofcjkcbpbaaDoorKeep
import Derived.Test.YtikhofcjkcbpbaaDoorTxJ
import Derived.Test.YtikhofcjkcbpbaaDoorShelf
import Derived.Deep.AppendLies
import Derived.Laws.OwnMore
namespace Go.Proofs.YtikhofcjkcbpbaaDoor
open Go.ChangeShapes Go.WideShapes Go.ChangeAt Go.RowKit
set_option linter.unusedVariables false

theorem infoStr : (Tryd.prog.info? 9).map (fun i => (i.zero, i.size, i.bytes)) = some (some (.string ⟨#[]⟩), 1, 16) := by kernel_rfl
theorem info_partsS {P : Program} {t : TypeId} {z : Value} {s b : Nat} (h : (P.info? t).map (fun i => (i.zero, i.size, i.bytes)) = some (some z, s, b)) : ∃ i, P.info? t = some i ∧ i.zero = some z ∧ i.size = s ∧ i.bytes = b := by
  cases hi : P.info? t with
  | none => rw [hi] at h; simp at h
  | some i => rw [hi] at h; simp at h; exact ⟨i, rfl, h.1, h.2.1, h.2.2⟩
abbrev OwnStr (w : World) (B : Nat) (v : Value) (xs : List ByteArray) : Prop := w.ownsRow B 9 1 v xs.length (xs.map Value.string)
theorem OwnStr.next {B : Nat} {w0 w w' : World} {v : Value} {xs : List ByteArray} (hb : Below B w0 w) (hB : B ≤ w.heap.size) (ho : OwnStr w B v xs) (hg : w.grownBy w' v.ownBlock) : Below B w0 w' := hb.grown hg hB fun k hk => (ho.lt k hk).1
/-- A string appended to a list of the call's own. -/
theorem wpList_append_s1 {w : World} {ops : Array Oper} {rest : List Oper} {o : Oper} {a : Act} {Q : Exit → Act → World → Prop} (hgd : o.guard = none) (s x : Operand)
    (ho : o.op = .call { callee := .builtin .append, args := #[s, x], argTypes := #[76, 76] })
    (base : Nat) (v : Value) (zs : List ByteArray) (n : ByteArray) (ad : Addr) (hs : a.eval s = v) (hx : a.eval x = .slice (some ad) 1 1) (hown : OwnStr w base v zs) (hc : ∀ j u, [Value.string n][j]? = some u → w.cell? (ad.add j) = some u)
    (h63 : zs.length + 1 ≤ 4194304) (hbase : base ≤ w.heap.size)
    (hK : ∀ v' w', OwnStr w' base v' (zs ++ [n]) → w.grownBy w' v.ownBlock → wpList Tryd.prog ops Q rest (a.put o.dst v') w') : wpList Tryd.prog ops Q (o :: rest) a w := by
  obtain ⟨i0, hi, hz0, hz1, hz2⟩ := info_partsS infoStr
  refine wpList_append_own w hgd s x _ ho base 9 i0 _ 1 16 Tryd.underlying76 hi hz0 hz1 hz2 rfl (by decide) v _ _ hs hown ad 1 1 [.string n] hx rfl hc (fun u hu => by simp at hu; subst hu; rfl) (by simp only [maxLen]; omega) (by omega) hbase (fun v' w' h5 h6 _ => hK v' w' (by simpa [OwnStr] using h5) h6)
/-- Nothing is appended. -/
theorem run_append_noneS {P : Program} (w : World) (base : Nat) (t ty e : TypeId) (i : TypeInfo) (size : Nat) (ht : P.underlying t = some (.slice e)) (hi : P.info? e = some i)
    (v : Value) (n : Nat) (xs : List Value) (hown : w.ownsRow base e size v n xs) (ao : Option Addr) (c : Nat) :
    (Builtin.append_ #[t, t] ty #[v, .slice ao 0 c]).run P w = .ok v w := by
  rcases hown.2 with ⟨rfl, rfl⟩ | ⟨g, cap, cur, rfl, _, _, hnc, _⟩
  · cases ao <;> simp [Builtin.append_, run_underlying ht, sizeOf, typeInfo, hi, Builtin.lenOf, Builtin.firstCells, loadCells, loadCellsFrom]
  · cases ao <;> simp [Builtin.append_, run_underlying ht, sizeOf, typeInfo, hi, Builtin.lenOf, Builtin.firstCells, loadCells, loadCellsFrom, hnc, storeCells]
/-- A list of strings appended to another of the call's own. -/
theorem wpList_append_ss {w : World} {ops : Array Oper} {rest : List Oper} {o : Oper} {a : Act} {Q : Exit → Act → World → Prop} (hgd : o.guard = none) (s x : Operand)
    (ho : o.op = .call { callee := .builtin .append, args := #[s, x], argTypes := #[76, 76] })
    (base B : Nat) (v vx : Value) (zs ns : List ByteArray) (hs : a.eval s = v) (hx : a.eval x = vx) (hown : OwnStr w base v zs) (hL : OwnStr w B vx ns)
    (h63 : zs.length + ns.length ≤ 4194304) (hbase : base ≤ w.heap.size)
    (hK : ∀ v' w', OwnStr w' base v' (zs ++ ns) → w.grownBy w' v.ownBlock → wpList Tryd.prog ops Q rest (a.put o.dst v') w') : wpList Tryd.prog ops Q (o :: rest) a w := by
  obtain ⟨i0, hi, hz0, hz1, hz2⟩ := info_partsS infoStr
  have hL' := hL
  rcases hL.2 with ⟨rfl, hn⟩ | ⟨g, cap, cur, rfl, hB, hg, hnc, hcm, -⟩
  · obtain rfl : ns = [] := List.length_eq_zero_iff.1 hn
    have hrun := run_append_noneS (P := Tryd.prog) w base 76 o.type 9 i0 1 Tryd.underlying76 hi v _ _ hown none 0
    refine wpList_plain hgd fun K hK' => ?_
    unfold Oper.wp
    simp [execOp, ho, resolve, invoke, builtin, hs, hx, hrun, Result.andThen]
    exact hK' _ _ (hK v w (by simpa [OwnStr] using hown) ⟨rfl, rfl, rfl, Nat.le_refl _, fun k _ _ => rfl⟩)
  · refine wpList_append_own w hgd s x _ ho base 9 i0 _ 1 16 Tryd.underlying76 hi hz0 hz1 hz2 rfl (by decide) v _ _ hs hown ⟨g, 0, none⟩ ns.length cap (ns.map Value.string) hx (by simp) (fun j u hj => ?_) (fun u hu => ?_) (by simp only [maxLen]; omega) (by omega) hbase (fun v' w' h5 h6 _ => hK v' w' (by simpa [OwnStr] using h5) h6)
    · exact hL'.cells rfl j u hj
    · obtain ⟨s', _, rfl⟩ := List.mem_map.1 hu
      rfl
theorem OwnStr.made (w : World) (d : ByteArray) : OwnStr (w.alloc (.cells #[.string d] 9)) w.heap.size (.slice (some ⟨w.heap.size, 0, none⟩) 1 1) [d] :=
  ⟨rfl, .inr ⟨w.heap.size, 1, #[.string d], rfl, Nat.le_refl _, heap_alloc_new w _, Nat.le_refl _, by simp [maxLen], rfl, rfl⟩⟩
/-- Texts with a separator between them. -/
def joinS (sep : ByteArray) : List ByteArray → ByteArray
  | [] => ⟨#[]⟩
  | x :: r => addAll sep x r
theorem joinS_size (sep : ByteArray) (l : List ByteArray) : (joinS sep l).size ≤ sep.size * l.length + szs l := by
  cases l with
  | nil => exact Nat.zero_le _
  | cons x r => rw [joinS, addAll_size, List.length_cons, Nat.mul_succ, szs]; omega
theorem joinS_eq (sep : ByteArray) (l : List ByteArray) : (⟨(Lib.join (l.map (·.data.toList)) sep.data.toList).toArray⟩ : ByteArray) = joinS sep l := by
  cases l with
  | nil => rfl
  | cons x r => exact join_addAll sep x r
theorem OwnStr.cells {w : World} {B g c : Nat} {xs : List ByteArray} (h : OwnStr w B (.slice (some ⟨g, 0, none⟩) xs.length c) xs) : ∀ (j : Nat) x, xs[j]? = some x → w.cell? ⟨g, 0 + j, none⟩ = some (.string x) := by
  intro j x hx
  have hj := (List.getElem?_eq_some_iff.1 hx).1
  rw [Nat.zero_add, h.cellAt j (by omega), List.getElem?_map, hx]
  rfl
theorem join_own {sep : ByteArray} {w : World} {B : Nat} {v : Value} {xs : List ByteArray} (ho : OwnStr w B v xs) (hN : xs.length ≤ 1048576) (hs : sep.size ≤ 16) (hz : szs xs ≤ 1099511627776) :
    Calls Tryd.prog 50 #[v, .string sep] w fun e w' => e = .returned (.string (joinS sep xs)) ∧ Below w.heap.size w w' := by
  have hlen : (Lib.join (xs.map (·.data.toList)) sep.data.toList).length ≤ 140737488355328 := by
    have h1 := joinS_size sep xs
    have h2 : (Lib.join (xs.map (·.data.toList)) sep.data.toList).length = (joinS sep xs).size := by rw [← joinS_eq]; rfl
    have h3 : sep.size * xs.length ≤ 16 * 1048576 := Nat.mul_le_mul hs hN
    omega
  rcases ho.2 with ⟨rfl, hn⟩ | ⟨g, cap, cur, rfl, hB, hg, hnc, hcm, -⟩
  · obtain rfl : xs = [] := List.length_eq_zero_iff.1 hn
    exact (Tryd.strings_Join_none none 0 sep w).mono fun e w' ⟨he, hw⟩ => ⟨he, by subst hw; exact Below.refl _ _⟩
  · refine (Tryd.strings_Join g 0 cap xs sep w (fun j x hj => OwnStr.cells ho j x hj) (Array.getElem?_eq_some_iff.1 hg).1 (by omega) hnc hlen).mono fun e w' ⟨he, hw⟩ => ⟨?_, hw⟩
    rw [he, joinS_eq]
end Go.Proofs.YtikhofcjkcbpbaaDoor
