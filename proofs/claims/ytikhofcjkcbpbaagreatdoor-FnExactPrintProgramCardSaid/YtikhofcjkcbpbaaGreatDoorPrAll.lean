/- Merged texts: TxJ StL PrU PrV. No condition. -/
import Derived.Test.YtikhofcjkcbpbaaGreatDoorDec
import Derived.Lib.Join
import Derived.WideShapes
import Derived.Test.YtikhofcjkcbpbaaGreatDoorKeep
import Derived.Test.YtikhofcjkcbpbaaGreatDoorShelf
import Derived.Deep.AppendLies
import Derived.Laws.OwnMore
import Derived.Test.YtikhofcjkcbpbaaGreatDoorTmPlain
import Derived.Test.YtikhofcjkcbpbaaGreatDoorTyText
import Derived.Test.YtikhofcjkcbpbaaGreatDoorTwo
import Derived.Test.YtikhofcjkcbpbaaGreatDoorTmValid
import Derived.Test.YtikhofcjkcbpbaaGreatDoorTmFits
import Derived.BigQuiet
import Derived.Test.YtikhofcjkcbpbaaGreatDoorSzTm
import Derived.IntWalk
import Derived.Deep.RegionHeld3
/- was: TxJ -/
namespace Go.Proofs.YtikhofcjkcbpbaaGreatDoor
open Go
set_option linter.unusedVariables false

/-- A number's decimal text. -/
def dec (n : Int) : ByteArray := ⟨(Lib.itoa n).toArray⟩
/-- Texts behind a text, a separator ahead of each. -/
def addAll (sep t : ByteArray) : List ByteArray → ByteArray
  | [] => t
  | x :: r => addAll sep (t ++ (sep ++ x)) r
theorem addAll_snoc (sep x : ByteArray) : ∀ (l : List ByteArray) (t : ByteArray), addAll sep t (l ++ [x]) = addAll sep t l ++ (sep ++ x)
  | [], t => rfl
  | y :: l, t => addAll_snoc sep x l (t ++ (sep ++ y))
theorem data_app (a b : ByteArray) : (a ++ b).data.toList = a.data.toList ++ b.data.toList := by rw [ByteArray.data_append, Array.toList_append]
theorem addAll_data (sep : ByteArray) : ∀ (l : List ByteArray) (t : ByteArray), (addAll sep t l).data.toList = t.data.toList ++ Lib.joinTail sep.data.toList (l.map (·.data.toList))
  | [], t => by simp [addAll, Lib.joinTail]
  | y :: l, t => by rw [addAll, addAll_data sep l, data_app, data_app]; simp [Lib.joinTail]
theorem addAll_pre (sep p : ByteArray) (l : List ByteArray) (t : ByteArray) : addAll sep (p ++ t) l = p ++ addAll sep t l :=
  WideShapes.bytes_inj (by rw [addAll_data, data_app, data_app, addAll_data]; simp)
theorem join_addAll (sep x : ByteArray) (r : List ByteArray) : (⟨(Lib.join ((x :: r).map (·.data.toList)) sep.data.toList).toArray⟩ : ByteArray) = addAll sep x r :=
  WideShapes.bytes_inj (by rw [addAll_data, List.map_cons, Lib.join_cons])
def szs : List ByteArray → Nat
  | [] => 0
  | x :: r => x.size + szs r
theorem addAll_size (sep : ByteArray) : ∀ (l : List ByteArray) (t : ByteArray), (addAll sep t l).size = t.size + sep.size * l.length + szs l
  | [], t => by simp [addAll, szs]
  | y :: l, t => by
    rw [addAll, addAll_size sep l, ByteArray.size_append, ByteArray.size_append, szs, List.length_cons, Nat.mul_succ]
    omega
theorem dec_size {n : Int} (h : lint n = true) : (dec n).size ≤ 11 := itoa_length h
end Go.Proofs.YtikhofcjkcbpbaaGreatDoor
/- was: StL -/
namespace Go.Proofs.YtikhofcjkcbpbaaGreatDoor
open Go.ChangeShapes Go.WideShapes Go.ChangeAt Go.RowKit
set_option linter.unusedVariables false

theorem infoStr : (Tryz.prog.info? 9).map (fun i => (i.zero, i.size, i.bytes)) = some (some (.string ⟨#[]⟩), 1, 16) := by kernel_rfl
theorem info_partsS {P : Program} {t : TypeId} {z : Value} {s b : Nat} (h : (P.info? t).map (fun i => (i.zero, i.size, i.bytes)) = some (some z, s, b)) : ∃ i, P.info? t = some i ∧ i.zero = some z ∧ i.size = s ∧ i.bytes = b := by
  cases hi : P.info? t with
  | none => rw [hi] at h; simp at h
  | some i => rw [hi] at h; simp at h; exact ⟨i, rfl, h.1, h.2.1, h.2.2⟩
abbrev OwnStr (w : World) (B : Nat) (v : Value) (xs : List ByteArray) : Prop := w.ownsRow B 9 1 v xs.length (xs.map Value.string)
theorem OwnStr.next {B : Nat} {w0 w w' : World} {v : Value} {xs : List ByteArray} (hb : Below B w0 w) (hB : B ≤ w.heap.size) (ho : OwnStr w B v xs) (hg : w.grownBy w' v.ownBlock) : Below B w0 w' := hb.grown hg hB fun k hk => (ho.lt k hk).1
/-- A string appended to a list of the call's own. -/
theorem wpList_append_s1 {w : World} {ops : Array Oper} {rest : List Oper} {o : Oper} {a : Act} {Q : Exit → Act → World → Prop} (hgd : o.guard = none) (s x : Operand)
    (ho : o.op = .call { callee := .builtin .append, args := #[s, x], argTypes := #[25, 25] })
    (base : Nat) (v : Value) (zs : List ByteArray) (n : ByteArray) (ad : Addr) (hs : a.eval s = v) (hx : a.eval x = .slice (some ad) 1 1) (hown : OwnStr w base v zs) (hc : ∀ j u, [Value.string n][j]? = some u → w.cell? (ad.add j) = some u)
    (h63 : zs.length + 1 ≤ 4194304) (hbase : base ≤ w.heap.size)
    (hK : ∀ v' w', OwnStr w' base v' (zs ++ [n]) → w.grownBy w' v.ownBlock → wpList Tryz.prog ops Q rest (a.put o.dst v') w') : wpList Tryz.prog ops Q (o :: rest) a w := by
  obtain ⟨i0, hi, hz0, hz1, hz2⟩ := info_partsS infoStr
  refine wpList_append_own w hgd s x _ ho base 9 i0 _ 1 16 Tryz.underlying25 hi hz0 hz1 hz2 rfl (by decide) v _ _ hs hown ad 1 1 [.string n] hx rfl hc (fun u hu => by simp at hu; subst hu; rfl) (by simp only [maxLen]; omega) (by omega) hbase (fun v' w' h5 h6 _ => hK v' w' (by simpa [OwnStr] using h5) h6)
/-- Nothing is appended. -/
theorem run_append_noneS {P : Program} (w : World) (base : Nat) (t ty e : TypeId) (i : TypeInfo) (size : Nat) (ht : P.underlying t = some (.slice e)) (hi : P.info? e = some i)
    (v : Value) (n : Nat) (xs : List Value) (hown : w.ownsRow base e size v n xs) (ao : Option Addr) (c : Nat) :
    (Builtin.append_ #[t, t] ty #[v, .slice ao 0 c]).run P w = .ok v w := by
  rcases hown.2 with ⟨rfl, rfl⟩ | ⟨g, cap, cur, rfl, _, _, hnc, _⟩
  · cases ao <;> simp [Builtin.append_, run_underlying ht, sizeOf, typeInfo, hi, Builtin.lenOf, Builtin.firstCells, loadCells, loadCellsFrom]
  · cases ao <;> simp [Builtin.append_, run_underlying ht, sizeOf, typeInfo, hi, Builtin.lenOf, Builtin.firstCells, loadCells, loadCellsFrom, hnc, storeCells]
/-- A list of strings appended to another of the call's own. -/
theorem wpList_append_ss {w : World} {ops : Array Oper} {rest : List Oper} {o : Oper} {a : Act} {Q : Exit → Act → World → Prop} (hgd : o.guard = none) (s x : Operand)
    (ho : o.op = .call { callee := .builtin .append, args := #[s, x], argTypes := #[25, 25] })
    (base B : Nat) (v vx : Value) (zs ns : List ByteArray) (hs : a.eval s = v) (hx : a.eval x = vx) (hown : OwnStr w base v zs) (hL : OwnStr w B vx ns)
    (h63 : zs.length + ns.length ≤ 4194304) (hbase : base ≤ w.heap.size)
    (hK : ∀ v' w', OwnStr w' base v' (zs ++ ns) → w.grownBy w' v.ownBlock → wpList Tryz.prog ops Q rest (a.put o.dst v') w') : wpList Tryz.prog ops Q (o :: rest) a w := by
  obtain ⟨i0, hi, hz0, hz1, hz2⟩ := info_partsS infoStr
  have hL' := hL
  rcases hL.2 with ⟨rfl, hn⟩ | ⟨g, cap, cur, rfl, hB, hg, hnc, hcm, -⟩
  · obtain rfl : ns = [] := List.length_eq_zero_iff.1 hn
    have hrun := run_append_noneS (P := Tryz.prog) w base 25 o.type 9 i0 1 Tryz.underlying25 hi v _ _ hown none 0
    refine wpList_plain hgd fun K hK' => ?_
    unfold Oper.wp
    simp [execOp, ho, resolve, invoke, builtin, hs, hx, hrun, Result.andThen]
    exact hK' _ _ (hK v w (by simpa [OwnStr] using hown) ⟨rfl, rfl, rfl, Nat.le_refl _, fun k _ _ => rfl⟩)
  · refine wpList_append_own w hgd s x _ ho base 9 i0 _ 1 16 Tryz.underlying25 hi hz0 hz1 hz2 rfl (by decide) v _ _ hs hown ⟨g, 0, none⟩ ns.length cap (ns.map Value.string) hx (by simp) (fun j u hj => ?_) (fun u hu => ?_) (by simp only [maxLen]; omega) (by omega) hbase (fun v' w' h5 h6 _ => hK v' w' (by simpa [OwnStr] using h5) h6)
    · exact hL'.cells rfl j u hj
    · obtain ⟨s', _, rfl⟩ := List.mem_map.1 hu
      rfl
theorem OwnStr.made (w : World) (d : ByteArray) : OwnStr (w.alloc (.cells #[.string d] 9)) w.heap.size (.slice (some ⟨w.heap.size, 0, none⟩) 1 1) [d] :=
  ⟨rfl, .inr ⟨w.heap.size, 1, #[.string d], rfl, Nat.le_refl _, heap_alloc_new w _, Nat.le_refl _, by simp [maxLen], rfl, rfl⟩⟩
/-- Texts with a separator between them. -/
def joinS (sep : ByteArray) : List ByteArray → ByteArray
  | [] => ⟨#[]⟩
  | x :: r => addAll sep x r
theorem joinS_size (sep : ByteArray) (l : List ByteArray) : (joinS sep l).size ≤ sep.size * l.length + szs l := by
  cases l with
  | nil => exact Nat.zero_le _
  | cons x r => rw [joinS, addAll_size, List.length_cons, Nat.mul_succ, szs]; omega
theorem joinS_eq (sep : ByteArray) (l : List ByteArray) : (⟨(Lib.join (l.map (·.data.toList)) sep.data.toList).toArray⟩ : ByteArray) = joinS sep l := by
  cases l with
  | nil => rfl
  | cons x r => exact join_addAll sep x r
theorem OwnStr.cells {w : World} {B g c : Nat} {xs : List ByteArray} (h : OwnStr w B (.slice (some ⟨g, 0, none⟩) xs.length c) xs) : ∀ (j : Nat) x, xs[j]? = some x → w.cell? ⟨g, 0 + j, none⟩ = some (.string x) := by
  intro j x hx
  have hj := (List.getElem?_eq_some_iff.1 hx).1
  rw [Nat.zero_add, h.cellAt j (by omega), List.getElem?_map, hx]
  rfl
theorem join_own {sep : ByteArray} {w : World} {B : Nat} {v : Value} {xs : List ByteArray} (ho : OwnStr w B v xs) (hN : xs.length ≤ 1048576) (hs : sep.size ≤ 16) (hz : szs xs ≤ 1099511627776) :
    Calls Tryz.prog 40 #[v, .string sep] w fun e w' => e = .returned (.string (joinS sep xs)) ∧ Below w.heap.size w w' := by
  have hlen : (Lib.join (xs.map (·.data.toList)) sep.data.toList).length ≤ 140737488355328 := by
    have h1 := joinS_size sep xs
    have h2 : (Lib.join (xs.map (·.data.toList)) sep.data.toList).length = (joinS sep xs).size := by rw [← joinS_eq]; rfl
    have h3 : sep.size * xs.length ≤ 16 * 1048576 := Nat.mul_le_mul hs hN
    omega
  rcases ho.2 with ⟨rfl, hn⟩ | ⟨g, cap, cur, rfl, hB, hg, hnc, hcm, -⟩
  · obtain rfl : xs = [] := List.length_eq_zero_iff.1 hn
    exact (Tryz.strings_Join_none none 0 sep w).mono fun e w' ⟨he, hw⟩ => ⟨he, by subst hw; exact Below.refl _ _⟩
  · refine (Tryz.strings_Join g 0 cap xs sep w (fun j x hj => OwnStr.cells ho j x hj) (Array.getElem?_eq_some_iff.1 hg).1 (by omega) hnc hlen).mono fun e w' ⟨he, hw⟩ => ⟨?_, hw⟩
    rw [he, joinS_eq]
end Go.Proofs.YtikhofcjkcbpbaaGreatDoor
/- was: PrU -/
namespace Go.Proofs.YtikhofcjkcbpbaaGreatDoor
open Go.RowKit
set_option linter.unusedVariables false

theorem ret_strB {w w' : World} {a b : ByteArray} (h : a = b) (hb : Below w.heap.size w w') : (Ending.returned (.string a) = .returned (.string b)) ∧ Below w.heap.size w w' := by subst h; exact ⟨rfl, hb⟩
theorem inR_iffP {n a b : Int} : inR n a b = true ↔ a ≤ n ∧ n ≤ b := by
  unfold inR
  constructor
  · intro h; simpa using h
  · intro h; simpa using h
theorem lint_inP {n a b : Int} (h : inR n a b = true) (ha : -2147483648 ≤ a) (hb : b ≤ 2147483647) : lint n = true := by
  rw [inR_iffP] at h
  simp only [lint, Bool.and_eq_true, decide_eq_true_eq]
  omega
theorem opText_leP (n : Int) : (opText n).size ≤ 1 := by
  unfold opText
  repeat (split; exact Nat.le_refl _)
  exact Nat.zero_le _
/-- The level of a node. -/
def tmLev (k u : Int) : Int := if k = 4 ∨ k = 7 ∨ k = 11 then 0 else if k = 3 then (if u = 5 ∨ u = 6 then 1 else if u = 1 ∨ u = 2 then 2 else 3) else if k = 5 then 4 else 5
theorem tmLev_in (k u : Int) : 0 ≤ tmLev k u ∧ tmLev k u ≤ 5 := by
  unfold tmLev
  split
  · omega
  split
  · split
    · omega
    split <;> omega
  split <;> omega
/-- Texts in brackets; nothing if there are none. -/
def brk (l : List ByteArray) : ByteArray := match l with
  | [] => ⟨#[]⟩
  | x :: r => (⟨#[91]⟩ ++ addAll ⟨#[44, 32]⟩ x r) ++ ⟨#[93]⟩
def prn (l : Int) (p : Int × ByteArray) : ByteArray := if p.1 < l then (⟨#[40]⟩ ++ p.2) ++ ⟨#[41]⟩ else p.2
def kid0 (ts : List (Int × ByteArray)) : Int × ByteArray := ts.getD 0 (5, ⟨#[]⟩)
def kid1 (ts : List (Int × ByteArray)) : Int × ByteArray := ts.getD 1 (5, ⟨#[]⟩)
def kid2 (ts : List (Int × ByteArray)) : Int × ByteArray := ts.getD 2 (5, ⟨#[]⟩)
abbrev semi : ByteArray := ⟨#[59, 32]⟩
def opLeft (u : Int) : Int := if tmLev 3 u = 1 then 2 else tmLev 3 u
/-- The text of a node over its kids' levels and texts. -/
def tmTxt (k u : Int) (n : ByteArray) (t : Ty) (ns : List ByteArray) (ts : List (Int × ByteArray)) : ByteArray :=
  if k = 2 then (if u < 0 then (⟨#[40]⟩ ++ dec u) ++ ⟨#[41]⟩ else dec u)
  else if k = 3 then (((prn (opLeft u) (kid0 ts) ++ ⟨#[32]⟩) ++ opText u) ++ ⟨#[32]⟩) ++ prn (tmLev 3 u + 1) (kid1 ts)
  else if k = 4 then ((((⟨#[92]⟩ ++ n) ++ ⟨#[58]⟩) ++ Ty.text t) ++ ⟨#[46, 32]⟩) ++ prn 0 (kid0 ts)
  else if k = 5 then (prn 4 (kid0 ts) ++ ⟨#[32]⟩) ++ prn 5 (kid1 ts)
  else if k = 6 then ⟨#[33]⟩ ++ prn 5 (kid0 ts)
  else if k = 7 then ((((⟨#[108, 101, 116, 32]⟩ ++ n) ++ ⟨#[32, 61, 32]⟩) ++ prn 0 (kid0 ts)) ++ ⟨#[32, 105, 110, 32]⟩) ++ prn 0 (kid1 ts)
  else if k = 8 then n ++ brk (ts.map (prn 0))
  else if k = 9 then (((⟨#[109, 97, 116, 99, 104, 32]⟩ ++ prn 0 (kid0 ts)) ++ ⟨#[32, 123, 32]⟩) ++ joinS semi ((ts.drop 1).map (prn 0))) ++ ⟨#[32, 125]⟩
  else if k = 10 then ((n ++ brk ns) ++ ⟨#[32, 45, 62, 32]⟩) ++ prn 0 (kid0 ts)
  else if k = 11 then ((((⟨#[105, 102, 32]⟩ ++ prn 0 (kid0 ts)) ++ ⟨#[32, 116, 104, 101, 110, 32]⟩) ++ prn 0 (kid1 ts)) ++ ⟨#[32, 101, 108, 115, 101, 32]⟩) ++ prn 0 (kid2 ts)
  else n
mutual
def Tm.text : Tm → ByteArray
  | .mk k u n t ns ks => tmTxt k u n t ns (Tm.texts ks)
def Tm.texts : List Tm → List (Int × ByteArray)
  | [] => []
  | .mk k u n t ns ks :: ts => (tmLev k u, Tm.text (.mk k u n t ns ks)) :: Tm.texts ts
end
def Tm.lev : Tm → Int
  | .mk k u _ _ _ _ => tmLev k u
def Tm.at (l : Int) (t : Tm) : ByteArray := prn l (Tm.lev t, Tm.text t)
theorem Tm.texts_cons (t : Tm) (ts : List Tm) : Tm.texts (t :: ts) = (Tm.lev t, Tm.text t) :: Tm.texts ts := by cases t; rw [Tm.texts]; rfl
theorem Tm.texts_length : ∀ ts : List Tm, (Tm.texts ts).length = ts.length
  | [] => rfl
  | t :: ts => by rw [Tm.texts_cons]; simp [Tm.texts_length ts]
theorem Tm.texts_get : ∀ (ts : List Tm) (j : Nat) (t : Tm), ts[j]? = some t → (Tm.texts ts)[j]? = some (Tm.lev t, Tm.text t)
  | [], j, t, h => by simp at h
  | u :: ts, 0, t, h => by simp only [List.getElem?_cons_zero, Option.some.injEq] at h; subst h; rw [Tm.texts_cons]; rfl
  | u :: ts, j + 1, t, h => by rw [Tm.texts_cons, List.getElem?_cons_succ]; exact Tm.texts_get ts j t (by simpa using h)
/-- The kids' texts, as they stand in lists. -/
def Tm.at0s (ts : List Tm) : List ByteArray := (Tm.texts ts).map (prn 0)
theorem Tm.at0s_snoc : ∀ (ts : List Tm) (j : Nat) (t : Tm), ts[j]? = some t → Tm.at0s (ts.take (j + 1)) = Tm.at0s (ts.take j) ++ [Tm.at 0 t]
  | [], j, t, h => by simp at h
  | u :: ts, 0, t, h => by
    simp only [List.getElem?_cons_zero, Option.some.injEq] at h
    subst h
    simp only [Tm.at0s, List.take_succ_cons, List.take_zero, Tm.texts_cons]
    rfl
  | u :: ts, j + 1, t, h => by
    have := Tm.at0s_snoc ts j t (by simpa using h)
    simp only [Tm.at0s, List.take_succ_cons, Tm.texts_cons, List.map_cons] at this ⊢
    rw [this]
    rfl
theorem Tm.at_0 (t : Tm) : Tm.at 0 t = Tm.text t := by
  obtain ⟨k, u, n, ty, ns, ks⟩ := t
  have := tmLev_in k u
  show (if tmLev k u < 0 then _ else _) = _
  rw [if_neg (by omega)]
theorem prn_size (l : Int) (p : Int × ByteArray) : (prn l p).size ≤ p.2.size + 2 := by
  have e1 : (⟨#[40]⟩ : ByteArray).size = 1 := rfl
  have e2 : (⟨#[41]⟩ : ByteArray).size = 1 := rfl
  unfold prn
  split
  · rw [ByteArray.size_append, ByteArray.size_append, e1, e2]; omega
  · omega
/-- The sizes of the kids' texts, four more each. -/
def szp : List (Int × ByteArray) → Nat
  | [] => 0
  | p :: r => p.2.size + 4 + szp r
theorem kid0_le (ts : List (Int × ByteArray)) (l : Int) : (prn l (kid0 ts)).size ≤ szp ts + 2 := by
  have e : (⟨#[]⟩ : ByteArray).size = 0 := rfl
  have h := prn_size l (kid0 ts)
  cases ts with
  | nil => have : (kid0 []).2.size = 0 := rfl; omega
  | cons a r => have : (kid0 (a :: r)).2.size = a.2.size := rfl; simp only [szp]; omega
theorem kid01_le (ts : List (Int × ByteArray)) (l m : Int) : (prn l (kid0 ts)).size + (prn m (kid1 ts)).size ≤ szp ts + 4 := by
  have h := prn_size l (kid0 ts)
  have h1 := prn_size m (kid1 ts)
  match ts with
  | [] => have a : (kid0 []).2.size = 0 := rfl; have b : (kid1 []).2.size = 0 := rfl; omega
  | [a] => have b : (kid0 [a]).2.size = a.2.size := rfl; have c : (kid1 [a]).2.size = 0 := rfl; simp only [szp]; omega
  | a :: b :: r => have c : (kid0 (a :: b :: r)).2.size = a.2.size := rfl; have d : (kid1 (a :: b :: r)).2.size = b.2.size := rfl; simp only [szp]; omega
theorem kid012_le (ts : List (Int × ByteArray)) : (prn 0 (kid0 ts)).size + (prn 0 (kid1 ts)).size + (prn 0 (kid2 ts)).size ≤ szp ts + 6 := by
  have h := prn_size 0 (kid0 ts)
  have h1 := prn_size 0 (kid1 ts)
  have h2 := prn_size 0 (kid2 ts)
  match ts with
  | [] => have a : (kid0 []).2.size = 0 := rfl; have b : (kid1 []).2.size = 0 := rfl; have c : (kid2 []).2.size = 0 := rfl; omega
  | [a] => have b : (kid0 [a]).2.size = a.2.size := rfl; have c : (kid1 [a]).2.size = 0 := rfl; have d : (kid2 [a]).2.size = 0 := rfl; simp only [szp]; omega
  | [a, b] => have c : (kid0 [a, b]).2.size = a.2.size := rfl; have d : (kid1 [a, b]).2.size = b.2.size := rfl; have e : (kid2 [a, b]).2.size = 0 := rfl; simp only [szp]; omega
  | a :: b :: e :: r => have c : (kid0 (a :: b :: e :: r)).2.size = a.2.size := rfl; have d : (kid1 (a :: b :: e :: r)).2.size = b.2.size := rfl; have f : (kid2 (a :: b :: e :: r)).2.size = e.2.size := rfl; simp only [szp]; omega
theorem szs_prn (ts : List (Int × ByteArray)) : szs (ts.map (prn 0)) + 2 * ts.length ≤ szp ts := by
  induction ts with
  | nil => exact Nat.le_refl _
  | cons a r ih => have := prn_size 0 a; simp only [List.map_cons, szs, szp, List.length_cons]; omega
theorem brk_size (l : List ByteArray) : (brk l).size ≤ 2 + szs l + 2 * l.length := by
  have e1 : (⟨#[91]⟩ : ByteArray).size = 1 := rfl
  have e2 : (⟨#[93]⟩ : ByteArray).size = 1 := rfl
  have e3 : (⟨#[44, 32]⟩ : ByteArray).size = 2 := rfl
  cases l with
  | nil => exact Nat.zero_le _
  | cons x r => simp only [brk, ByteArray.size_append, addAll_size, e1, e2, e3, szs, List.length_cons]; omega
theorem szs_names (l : List ByteArray) : szs l + l.length = Sr.bulks l := by
  induction l with
  | nil => rfl
  | cons x r ih => simp only [szs, List.length_cons, Sr.bulks, Sr.bulk]; omega
theorem szp_drop (ts : List (Int × ByteArray)) : (prn 0 (kid0 ts)).size + (joinS semi ((ts.drop 1).map (prn 0))).size ≤ szp ts + 2 := by
  have h := prn_size 0 (kid0 ts)
  cases ts with
  | nil => have a : (kid0 []).2.size = 0 := rfl; have b : (joinS semi ((([] : List (Int × ByteArray)).drop 1).map (prn 0))).size = 0 := rfl; omega
  | cons a r =>
    have c : (kid0 (a :: r)).2.size = a.2.size := rfl
    have h1 := joinS_size semi (r.map (prn 0))
    have h2 := szs_prn r
    have e : semi.size = 2 := rfl
    rw [e, List.length_map] at h1
    simp only [List.drop_succ_cons, List.drop_zero, szp]
    omega
theorem tmTxt_le {k u : Int} {n : ByteArray} {t : Ty} {ns : List ByteArray} {ts : List (Int × ByteArray)} (hu : lint u = true) : (tmTxt k u n t ns ts).size ≤ 40 + n.size + (Ty.text t).size + 3 * Sr.bulks ns + szp ts := by
  have h1 := dec_size hu
  have h2 := brk_size ns
  have h3 := szs_names ns
  have h4 := opText_leP u
  have h5 := brk_size (ts.map (prn 0))
  have h6 := szs_prn ts
  have h7 := szp_drop ts
  have h8 := kid012_le ts
  have h9 := fun l m => kid01_le ts l m
  have ha := fun l => kid0_le ts l
  rw [List.length_map] at h5
  have e1 : ∀ c : UInt8, (⟨#[c]⟩ : ByteArray).size = 1 := fun _ => rfl
  have e2 : ∀ c d : UInt8, (⟨#[c, d]⟩ : ByteArray).size = 2 := fun _ _ => rfl
  have e3 : ∀ a b c : UInt8, (⟨#[a, b, c]⟩ : ByteArray).size = 3 := fun _ _ _ => rfl
  have e4 : ∀ a b c d : UInt8, (⟨#[a, b, c, d]⟩ : ByteArray).size = 4 := fun _ _ _ _ => rfl
  have e6 : ∀ a b c d e f : UInt8, (⟨#[a, b, c, d, e, f]⟩ : ByteArray).size = 6 := fun _ _ _ _ _ _ => rfl
  unfold tmTxt
  split
  · split
    · simp only [ByteArray.size_append, e1]; omega
    · omega
  split
  · have := h9 (opLeft u) (tmLev 3 u + 1); simp only [ByteArray.size_append, e1]; omega
  split
  · have := ha 0; simp only [ByteArray.size_append, e1, e2]; omega
  split
  · have := h9 4 5; simp only [ByteArray.size_append, e1]; omega
  split
  · have := ha 5; simp only [ByteArray.size_append, e1]; omega
  split
  · have := h9 0 0; simp only [ByteArray.size_append, e3, e4]; omega
  split
  · simp only [ByteArray.size_append]; omega
  split
  · simp only [ByteArray.size_append, e2, e3, e6]; omega
  split
  · have := ha 0; simp only [ByteArray.size_append, e4]; omega
  split
  · simp only [ByteArray.size_append, e3, e6]; omega
  · omega
end Go.Proofs.YtikhofcjkcbpbaaGreatDoor
/- was: PrQ -/
namespace Go.Proofs.YtikhofcjkcbpbaaGreatDoor
open Go.RowKit
set_option linter.unusedVariables false

theorem joinS_snoc (sep x : ByteArray) {l : List ByteArray} (h : l ≠ []) : joinS sep (l ++ [x]) = (joinS sep l ++ sep) ++ x := by
  cases l with
  | nil => exact absurd rfl h
  | cons y r => rw [List.cons_append, joinS, joinS, addAll_snoc, ByteArray.append_assoc]
theorem joinS_one (sep x : ByteArray) : joinS sep ([] ++ [x]) = x := rfl
theorem brk_eq {l : List ByteArray} (h : l ≠ []) : brk l = (⟨#[91]⟩ ++ joinS ⟨#[44, 32]⟩ l) ++ ⟨#[93]⟩ := by
  cases l with
  | nil => exact absurd rfl h
  | cons y r => rfl
theorem addAll_ge (sep : ByteArray) (l : List ByteArray) (t : ByteArray) : t.size ≤ (addAll sep t l).size := by rw [addAll_size]; omega
theorem joinS_pos {sep : ByteArray} {l : List ByteArray} (h : l ≠ []) (hp : ∀ x ∈ l, 1 ≤ x.size) : 1 ≤ (joinS sep l).size := by
  cases l with
  | nil => exact absurd rfl h
  | cons y r => rw [joinS]; exact Nat.le_trans (hp y (by simp)) (addAll_ge _ _ _)
theorem isName_pos {n : ByteArray} (h : isNameB n = true) : 1 ≤ n.size := by
  simp only [isNameB, decide_eq_true_eq] at h
  exact h.1
theorem lower_pos {n : ByteArray} (h : isLowerB n = true) : 1 ≤ n.size := by
  simp only [isLowerB, Bool.and_eq_true] at h
  exact isName_pos h.1
theorem upper_pos {n : ByteArray} (h : isUpperB n = true) : 1 ≤ n.size := by
  simp only [isUpperB, Bool.and_eq_true] at h
  exact isName_pos h.1
theorem low_pos (ns : List ByteArray) : ∀ (l : List ByteArray) (j : Nat), lowFrom ns l j = true → ∀ x ∈ l, 1 ≤ x.size := by
  intro l
  induction l with
  | nil => intro j _ x hx; simp at hx
  | cons y r ih =>
    intro j h x hx
    simp only [lowFrom, Bool.and_eq_true] at h
    rcases List.mem_cons.1 hx with rfl | hx
    · exact lower_pos h.1.1
    · exact ih _ h.2 x hx
theorem Tm.good_parts {k u : Int} {n : ByteArray} {t : Ty} {ns : List ByteArray} {ks : List Tm} (h : Tm.good (.mk k u n t ns ks) = true) : okTm k u n t ns ks.length = true ∧ casesOk k 0 ks = true ∧ Tm.goods ks = true := by
  simpa only [Tm.good, Bool.and_eq_true] using h
theorem okTm_lint {k u : Int} {n : ByteArray} {t : Ty} {ns : List ByteArray} {m : Nat} (h : okTm k u n t ns m = true) : lint u = true := by
  simp only [okTm, tmFields, Bool.and_eq_true] at h
  have hu := h.2.2.2.2
  unfold tmNum at hu
  split at hu
  · exact lint_inP hu (by decide) (by decide)
  split at hu
  · exact lint_inP hu (by decide) (by decide)
  · simp only [decide_eq_true_eq] at hu; subst hu; decide
theorem okTm_cases {k u : Int} {n : ByteArray} {t : Ty} {ns : List ByteArray} {m : Nat} (h : okTm k u n t ns m = true) :
    (k = 1 ∧ m = 0 ∧ 1 ≤ n.size) ∨ (k = 2 ∧ m = 0) ∨ (k = 3 ∧ m = 2) ∨ (k = 4 ∧ m = 1 ∧ Ty.ok t = true) ∨ (k = 5 ∧ m = 2) ∨ (k = 6 ∧ m = 1) ∨ (k = 7 ∧ m = 2) ∨ (k = 8 ∧ m ≤ 3 ∧ 1 ≤ n.size) ∨ (k = 9 ∧ 2 ≤ m ∧ m ≤ 5) ∨ (k = 10 ∧ m = 1 ∧ ns.length ≤ 3 ∧ lowFrom ns ns 0 = true) ∨ (k = 11 ∧ m = 3) := by
  simp only [okTm, tmFields, Bool.and_eq_true] at h
  obtain ⟨hm, hn, ht, hns, -⟩ := h
  rw [inR_iffP] at hm
  unfold tmN at hm
  split at hm
  · rename_i hk
    dsimp only at hm
    rcases hk with rfl | rfl
    · left; refine ⟨rfl, by omega, lower_pos (by simpa [tmName] using hn)⟩
    · right; left; exact ⟨rfl, by omega⟩
  split at hm
  · rename_i hk
    dsimp only at hm
    rcases hk with rfl | rfl | rfl
    · right; right; right; left; exact ⟨rfl, by omega, by simpa [tmType] using ht⟩
    · right; right; right; right; right; left; exact ⟨rfl, by omega⟩
    · right; right; right; right; right; right; right; right; right; left
      have : ns.length ≤ 3 ∧ lowFrom ns ns 0 = true := by simpa [tmNames] using hns
      exact ⟨rfl, by omega, this.1, this.2⟩
  split at hm
  · rename_i hk
    dsimp only at hm
    rcases hk with rfl | rfl | rfl
    · right; right; left; exact ⟨rfl, by omega⟩
    · right; right; right; right; left; exact ⟨rfl, by omega⟩
    · right; right; right; right; right; right; left; exact ⟨rfl, by omega⟩
  split at hm
  · rename_i hk
    dsimp only at hm
    subst hk
    right; right; right; right; right; right; right; left
    exact ⟨rfl, by omega, upper_pos (by simpa [tmName] using hn)⟩
  split at hm
  · rename_i hk
    dsimp only at hm
    subst hk
    right; right; right; right; right; right; right; right; left
    exact ⟨rfl, by omega, by omega⟩
  split at hm
  · rename_i hk
    dsimp only at hm
    subst hk
    right; right; right; right; right; right; right; right; right; right
    exact ⟨rfl, by omega⟩
  · dsimp only at hm; omega
theorem Ty.ok_text_pos {t : Ty} (h : Ty.ok t = true) : 1 ≤ (Ty.text t).size := by
  have hg : Ty.good t = true := by simp only [Ty.ok, Bool.and_eq_true] at h; exact h.1
  obtain ⟨k, n, ks⟩ := t
  simp only [Ty.good, Bool.and_eq_true] at hg
  have hok := hg.2
  have e1 : ∀ c : UInt8, (⟨#[c]⟩ : ByteArray).size = 1 := fun _ => rfl
  have e3 : (⟨#[73, 110, 116]⟩ : ByteArray).size = 3 := rfl
  have e4 : (⟨#[32, 45, 62, 32]⟩ : ByteArray).size = 4 := rfl
  unfold okNode at hok
  split at hok
  · rename_i hk; subst hk; rw [Ty.text, if_pos rfl, e3]; omega
  split at hok
  · rename_i hk; subst hk
    rw [Ty.text, if_neg (by omega), if_neg (by omega), if_neg (by omega)]
    simp only [Bool.and_eq_true] at hok
    exact upper_pos hok.1
  split at hok
  · rename_i hk; subst hk
    have hl : ks.length = 2 := by simp only [Bool.and_eq_true, decide_eq_true_eq] at hok; omega
    match ks, hl with
    | [a, b], _ =>
      rw [Ty.text, if_neg (by omega), if_pos rfl]
      simp only [Ty.texts, arrow, ByteArray.size_append, e4]
      omega
  split at hok
  · rename_i hk; subst hk
    have hl : ks.length = 1 := by simp only [Bool.and_eq_true, decide_eq_true_eq] at hok; omega
    match ks, hl with
    | [a], _ =>
      rw [Ty.text, if_neg (by omega), if_neg (by omega), if_pos rfl]
      simp only [Ty.texts, banged, ByteArray.size_append, e1]
      omega
  · cases hok
theorem Tm.text_pos {t : Tm} (h : Tm.good t = true) : 1 ≤ (Tm.text t).size := by
  obtain ⟨k, u, n, ty, ns, ks⟩ := t
  obtain ⟨hok, -, -⟩ := Tm.good_parts h
  have e1 : ∀ c : UInt8, (⟨#[c]⟩ : ByteArray).size = 1 := fun _ => rfl
  have e2 : ∀ c d : UInt8, (⟨#[c, d]⟩ : ByteArray).size = 2 := fun _ _ => rfl
  have e3 : ∀ a b c : UInt8, (⟨#[a, b, c]⟩ : ByteArray).size = 3 := fun _ _ _ => rfl
  have e4 : ∀ a b c d : UInt8, (⟨#[a, b, c, d]⟩ : ByteArray).size = 4 := fun _ _ _ _ => rfl
  have e6 : ∀ a b c d e f : UInt8, (⟨#[a, b, c, d, e, f]⟩ : ByteArray).size = 6 := fun _ _ _ _ _ _ => rfl
  have hd : 1 ≤ (dec u).size := List.length_pos_iff.2 (itoa_ne_nil u)
  rw [Tm.text]
  rcases okTm_cases hok with ⟨rfl, _, h⟩ | ⟨rfl, _⟩ | ⟨rfl, _⟩ | ⟨rfl, _⟩ | ⟨rfl, _⟩ | ⟨rfl, _⟩ | ⟨rfl, _⟩ | ⟨rfl, _, h⟩ | ⟨rfl, _⟩ | ⟨rfl, _⟩ | ⟨rfl, _⟩
  · exact h
  · show 1 ≤ (if u < 0 then (⟨#[40]⟩ ++ dec u) ++ ⟨#[41]⟩ else dec u).size
    split
    · simp only [ByteArray.size_append, e1]; omega
    · exact hd
  · show 1 ≤ ((((prn (opLeft u) (kid0 (Tm.texts ks)) ++ ⟨#[32]⟩) ++ opText u) ++ ⟨#[32]⟩) ++ prn (tmLev 3 u + 1) (kid1 (Tm.texts ks))).size
    simp only [ByteArray.size_append, e1]; omega
  · show 1 ≤ (((((⟨#[92]⟩ ++ n) ++ ⟨#[58]⟩) ++ Ty.text ty) ++ ⟨#[46, 32]⟩) ++ prn 0 (kid0 (Tm.texts ks))).size
    simp only [ByteArray.size_append, e1]; omega
  · show 1 ≤ ((prn 4 (kid0 (Tm.texts ks)) ++ ⟨#[32]⟩) ++ prn 5 (kid1 (Tm.texts ks))).size
    simp only [ByteArray.size_append, e1]; omega
  · show 1 ≤ (⟨#[33]⟩ ++ prn 5 (kid0 (Tm.texts ks))).size
    simp only [ByteArray.size_append, e1]; omega
  · show 1 ≤ (((((⟨#[108, 101, 116, 32]⟩ ++ n) ++ ⟨#[32, 61, 32]⟩) ++ prn 0 (kid0 (Tm.texts ks))) ++ ⟨#[32, 105, 110, 32]⟩) ++ prn 0 (kid1 (Tm.texts ks))).size
    simp only [ByteArray.size_append, e4]; omega
  · show 1 ≤ (n ++ brk ((Tm.texts ks).map (prn 0))).size
    simp only [ByteArray.size_append]; omega
  · show 1 ≤ ((((⟨#[109, 97, 116, 99, 104, 32]⟩ ++ prn 0 (kid0 (Tm.texts ks))) ++ ⟨#[32, 123, 32]⟩) ++ joinS semi (((Tm.texts ks).drop 1).map (prn 0))) ++ ⟨#[32, 125]⟩).size
    simp only [ByteArray.size_append, e2]; omega
  · show 1 ≤ (((n ++ brk ns) ++ ⟨#[32, 45, 62, 32]⟩) ++ prn 0 (kid0 (Tm.texts ks))).size
    simp only [ByteArray.size_append, e4]; omega
  · show 1 ≤ (((((⟨#[105, 102, 32]⟩ ++ prn 0 (kid0 (Tm.texts ks))) ++ ⟨#[32, 116, 104, 101, 110, 32]⟩) ++ prn 0 (kid1 (Tm.texts ks))) ++ ⟨#[32, 101, 108, 115, 101, 32]⟩) ++ prn 0 (kid2 (Tm.texts ks))).size
    simp only [ByteArray.size_append, e3]; omega
theorem prn_pos {l : Int} {p : Int × ByteArray} (h : 1 ≤ p.2.size) : 1 ≤ (prn l p).size := by
  have e1 : (⟨#[40]⟩ : ByteArray).size = 1 := rfl
  unfold prn
  split
  · simp only [ByteArray.size_append, e1]; omega
  · exact h
theorem Tm.at0s_pos : ∀ (ts : List Tm), Tm.goods ts = true → ∀ x ∈ Tm.at0s ts, 1 ≤ x.size
  | [], _, x, h => by simp [Tm.at0s, Tm.texts] at h
  | t :: ts, hg, x, h => by
    simp only [Tm.goods, Bool.and_eq_true] at hg
    simp only [Tm.at0s, Tm.texts_cons, List.map_cons] at h
    rcases List.mem_cons.1 h with rfl | h
    · exact prn_pos (Tm.text_pos hg.1)
    · exact Tm.at0s_pos ts hg.2 x h
mutual
theorem Tm.text_le : ∀ t : Tm, Tm.good t = true → (Tm.text t).size ≤ 64 * Tm.bulk t + 60
  | .mk k u n t ns ks, hg => by
    obtain ⟨hok, _, hgs⟩ := Tm.good_parts hg
    have h1 := tmTxt_le (k := k) (n := n) (t := t) (ns := ns) (ts := Tm.texts ks) (okTm_lint hok)
    have h2 := Tm.texts_le ks hgs
    have h3 := Ty.text_le t
    have h4 := Ty.cnt_le t
    simp only [Tm.text, Tm.bulk]
    omega
theorem Tm.texts_le : ∀ ts : List Tm, Tm.goods ts = true → szp (Tm.texts ts) ≤ 64 * Tm.bulks ts
  | [], _ => by simp [Tm.texts, szp]
  | t :: ts, hg => by
    simp only [Tm.goods, Bool.and_eq_true] at hg
    have h1 := Tm.text_le t hg.1
    have h2 := Tm.texts_le ts hg.2
    rw [Tm.texts_cons]
    simp only [szp, Tm.bulks]
    omega
end
theorem Tm.text_small {t : Tm} (hg : Tm.good t = true) (h : Tm.bulk t ≤ 1048576) : (Tm.text t).size ≤ 67108930 := by have := Tm.text_le t hg; omega
theorem Tm.at_small {t : Tm} (l : Int) (hg : Tm.good t = true) (h : Tm.bulk t ≤ 1048576) : (Tm.at l t).size ≤ 67108932 := by have h1 := Tm.text_small hg h; have h2 := prn_size l (Tm.lev t, Tm.text t); have h3 : (Tm.lev t, Tm.text t).2.size = (Tm.text t).size := rfl; unfold Tm.at; omega
theorem casesOk_get {k : Int} : ∀ {i : Nat} {ts : List Tm} {j : Nat} {t : Tm}, casesOk k i ts = true → ts[j]? = some t → Tm.isCase t = (decide (k = 9) && decide (0 < i + j))
  | i, [], j, t, _, h => by simp at h
  | i, u :: ts, 0, t, hc, h => by
    simp only [List.getElem?_cons_zero, Option.some.injEq] at h
    subst h
    simp only [casesOk, Bool.and_eq_true, beq_iff_eq] at hc
    exact hc.1
  | i, u :: ts, j + 1, t, hc, h => by
    simp only [casesOk, Bool.and_eq_true] at hc
    have := casesOk_get hc.2 (j := j) (t := t) (by simpa using h)
    rw [this, show i + 1 + j = i + (j + 1) by omega]
end Go.Proofs.YtikhofcjkcbpbaaGreatDoor
/- was: PrJ -/
namespace Go.Proofs.YtikhofcjkcbpbaaGreatDoor
open Go.ChangeShapes Go.WideShapes Go.ChangeAt Go.RowKit Go.BigFrame
open Go.Sort (grow)
set_option linter.unusedVariables false

theorem szs_take : ∀ (l : List ByteArray) (j : Nat), szs (l.take j) ≤ szs l
  | [], j => by simp
  | x :: r, 0 => by simp [szs]
  | x :: r, j + 1 => by have := szs_take r j; simp only [List.take_succ_cons, szs]; omega
/-- A list of strings lies in a slice. -/
def StrIn (w : World) (ns : List ByteArray) (v : Value) : Prop := ∃ (a : Option Addr) (c : Nat), v = .slice a ns.length c ∧ ns.length ≤ c ∧ (0 < ns.length → ∃ b o, a = some ⟨b, o, none⟩ ∧ b < w.heap.size ∧ ∀ (i : Nat) (s : ByteArray), ns[i]? = some s → w.cell? ⟨b, o + i, none⟩ = some (.string s))
theorem StrIn.of_rd {w : World} {ns : List ByteArray} {v : Value} (h : RdL w (Sr.ds ns) v) : StrIn w ns v := by
  obtain ⟨a, c, e, h2, h3, h4⟩ := h.eSr
  refine ⟨a, c, e, h2, fun hp => ?_⟩
  obtain ⟨b, o, e, hl, hc⟩ := h4 hp
  exact ⟨b, o, e, hl, fun i s hi => (hc i s hi).1⟩
theorem StrIn.of_own {w : World} {B : Nat} {v : Value} {ns : List ByteArray} (h : OwnStr w B v ns) : StrIn w ns v := by
  rcases h.2 with ⟨rfl, hz⟩ | ⟨g, cap, cur, rfl, -, hg, hnc, -⟩
  · exact ⟨none, 0, by rw [hz], by omega, fun hp => absurd hz (by omega)⟩
  · exact ⟨_, cap, rfl, hnc, fun _ => ⟨g, 0, rfl, (Array.getElem?_eq_some_iff.1 hg).1, fun i s hi => OwnStr.cells h i s hi⟩⟩
theorem StrIn.below {w w' : World} {ns : List ByteArray} {v : Value} (h : StrIn w ns v) (hb : Below w.heap.size w w') : StrIn w' ns v := by
  obtain ⟨a, c, e, h2, h4⟩ := h
  refine ⟨a, c, e, h2, fun hp => ?_⟩
  obtain ⟨b, o, e, hl, hc⟩ := h4 hp
  exact ⟨b, o, e, Nat.lt_of_lt_of_le hl hb.size, fun i s hi => (hb.cell (p := ⟨b, o + i, none⟩) hl).trans (hc i s hi)⟩
theorem join_in {sep : ByteArray} {w : World} {v : Value} {xs : List ByteArray} (ho : StrIn w xs v) (hN : xs.length ≤ 1048576) (hs : sep.size ≤ 16) (hz : szs xs ≤ 1099511627776) :
    Calls Tryz.prog 40 #[v, .string sep] w fun e w' => e = .returned (.string (joinS sep xs)) ∧ Below w.heap.size w w' := by
  have hlen : (Lib.join (xs.map (·.data.toList)) sep.data.toList).length ≤ 140737488355328 := by
    have h1 := joinS_size sep xs
    have h2 : (Lib.join (xs.map (·.data.toList)) sep.data.toList).length = (joinS sep xs).size := by rw [← joinS_eq]; rfl
    have h3 : sep.size * xs.length ≤ 16 * 1048576 := Nat.mul_le_mul hs hN
    omega
  obtain ⟨a, c, rfl, hc, h4⟩ := ho
  by_cases hx : xs = []
  · subst hx
    exact (Tryz.strings_Join_none a c sep w).mono fun e w' ⟨he, hw⟩ => ⟨he, by subst hw; exact Below.refl _ _⟩
  · obtain ⟨b, o, rfl, hb, hcl⟩ := h4 (List.length_pos_iff.2 hx)
    refine (Tryz.strings_Join b o c xs sep w hcl hb (by omega) hc hlen).mono fun e w' ⟨he, hw⟩ => ⟨?_, hw⟩
    rw [he, joinS_eq]
set_option maxRecDepth 100000 in
theorem impl_brk {w : World} {v : Value} {xs : List ByteArray} (ho : StrIn w xs v) (hN : xs.length ≤ 1048576) (hz : szs xs ≤ 1000000000) :
    Calls Tryz.prog 38 #[v] w fun e w' => e = .returned (.string (brk xs)) ∧ Below w.heap.size w w' := by
  have HJ := hid (join_in (sep := ⟨#[44, 32]⟩) ho hN (by decide) (by omega))
  have hjz := joinS_size ⟨#[44, 32]⟩ xs
  have e2 : (⟨#[44, 32]⟩ : ByteArray).size = 2 := rfl
  rw [e2] at hjz
  obtain ⟨a, c, rfl, -⟩ := ho
  by_cases hx : xs = []
  case pos =>
    subst hx
    clear HJ hjz
    go_enter Tryz.func38, Tryz.ntmps38
    go_wp2_with fail
    go_ret
    exact ⟨rfl, Below.refl _ _⟩
  case neg =>
    have HB := hid (brk_eq hx)
    have hl := List.length_pos_iff.2 hx
    generalize hJ : joinS ⟨#[44, 32]⟩ xs = J at HJ HB hjz
    have hjj : J.size ≤ 1100000000 := by omega
    have e1 : (⟨#[91]⟩ : ByteArray).size = 1 := rfl
    have e3 : ((⟨#[91]⟩ : ByteArray) ++ J).size = 1 + J.size := by rw [ByteArray.size_append, e1]
    have e4 : (⟨#[93]⟩ : ByteArray).size = 1 := rfl
    clear hx hJ hjz
    go_enter Tryz.func38, Tryz.ntmps38
    go_wp2_with fail
    refine HJ.out.mono ?_
    rintro e w1 ⟨rfl, hb⟩
    have HB1 := hid hb
    clear hb
    go_wp2_with fail
    go_ret
    exact ret_strB HB.out.symm HB1.out
theorem isEmpty_str {x : ByteArray} (h : 1 ≤ x.size) : x.toList ≠ [] := by
  rw [ByteArray.toList_eq]
  intro e
  have : x.data.toList.length = x.size := rfl
  rw [e] at this
  simp at this
  omega
set_option maxRecDepth 100000 in
set_option maxHeartbeats 1000000 in
theorem spec_Names (ns : List ByteArray) (v : Value) (w : World) (hN : ns.length ≤ 1048576) (hz : szs ns ≤ 1000000000) (hp : ∀ x ∈ ns, 1 ≤ x.size) (hr : StrIn w ns v) :
    Calls Tryz.prog 59 #[v] w fun e w' => e = .returned (.string (brk ns)) ∧ Below w.heap.size w w' := by
  obtain ⟨a, c, rfl, hc, h4⟩ := hr
  have H4 := hid h4
  have e2 : (⟨#[44, 32]⟩ : ByteArray).size = 2 := rfl
  have HTK := hid (show ∀ j, (joinS ⟨#[44, 32]⟩ (ns.take j)).size ≤ 1100000000 from fun j => by
    have h1 := joinS_size ⟨#[44, 32]⟩ (ns.take j)
    have h2 := szs_take ns j
    rw [e2, List.length_take] at h1
    omega)
  have HPO := hid (fun (h : ns ≠ []) => joinS_pos (sep := ⟨#[44, 32]⟩) h hp)
  clear h4 hp hz
  go_enter Tryz.func59, Tryz.ntmps59
  go_wp2_with fail
  go_loopw [3, 4] (fun t i wr => ∃ (j : Nat) (x : ByteArray), j ≤ ns.length ∧ i = .int .i64 j ∧ t = .string x ∧ x.size ≤ 1100000000 ∧ Hid (x = joinS ⟨#[44, 32]⟩ (ns.take j)) ∧ w = wr) (fun _ i _ => ns.length - (intOf i).toNat)
  case atStart => exact ⟨0, ⟨#[]⟩, by omega, rfl, rfl, by decide, hid rfl, rfl⟩
  case round =>
    obtain ⟨j, x, hj, rfl, rfl, hx, HX, rfl⟩ := hrel
    by_cases hlt : j < ns.length
    case neg =>
      have HE := hid (show x = joinS ⟨#[44, 32]⟩ ns by rw [HX.out, List.take_of_length_le (by omega)])
      by_cases hne : ns = []
      case pos =>
        have e0 : x = ⟨#[]⟩ := by rw [HE.out, hne]; rfl
        have HZ := hid (show brk ns = ⟨#[]⟩ by rw [hne]; rfl)
        subst e0
        clear hne hj
        go_wp2_with fail
        go_ret
        exact ret_strB HZ.out.symm (Below.refl _ _)
      case neg =>
        have HZ := hid (show brk ns = (⟨#[91]⟩ ++ x) ++ ⟨#[93]⟩ by rw [brk_eq hne, HE.out])
        have hxp : 1 ≤ x.size := by rw [HE.out]; exact HPO.out hne
        have hxe := isEmpty_str hxp
        have hxl : (x.toList == []) = false := by simpa using hxe
        have e1 : (⟨#[91]⟩ : ByteArray).size = 1 := rfl
        have e3 : ((⟨#[91]⟩ : ByteArray) ++ x).size = 1 + x.size := by rw [ByteArray.size_append, e1]
        have e4 : (⟨#[93]⟩ : ByteArray).size = 1 := rfl
        clear hne
        go_wp2_with fail
        go_ret
        exact ret_strB HZ.out.symm (Below.refl _ _)
    case pos =>
      obtain ⟨b, o, rfl, hbl, hall⟩ := H4.out (by omega)
      obtain ⟨s, hs⟩ : ∃ s, ns[j]? = some s := ⟨_, List.getElem?_eq_getElem hlt⟩
      have d0 := hall j s hs
      have htk : ns.take (j + 1) = ns.take j ++ [s] := by
        obtain ⟨hlt', he⟩ := List.getElem?_eq_some_iff.1 hs
        rw [List.take_succ_eq_append_getElem hlt', he]
      by_cases hj0 : j = 0
      case pos =>
        subst hj0
        have e0 : x = ⟨#[]⟩ := by rw [HX.out, List.take_zero]; rfl
        subst e0
        rw [Nat.add_zero] at d0
        have HE := hid (show (⟨#[]⟩ : ByteArray) ++ s = joinS ⟨#[44, 32]⟩ (ns.take (0 + 1)) by rw [htk, List.take_zero, joinS_one]; exact WideShapes.bytes_inj (by rw [data_app]; simp))
        have hes : ((⟨#[]⟩ : ByteArray) ++ s).size ≤ 1100000000 := by rw [HE.out]; exact HTK.out 1
        have hss : s.size ≤ 1100000000 := by rw [ByteArray.size_append] at hes; omega
        clear hall hs htk
        go_wp2_with fail
        go_roundw
        case rel => exact ⟨1, _, by omega, by go_num, rfl, hes, HE, by first | rfl | trivial⟩
        case measure => first | (simp [intOf]; done) | (simp [intOf]; omega)
      case neg =>
        have gj : decide (0 < j) = true := decide_eq_true (by omega)
        have hne : ns.take j ≠ [] := by intro h; have h2 : (ns.take j).length = 0 := (by rw [h]; rfl); rw [List.length_take] at h2; omega
        have HE := hid (show (x ++ ⟨#[44, 32]⟩) ++ s = joinS ⟨#[44, 32]⟩ (ns.take (j + 1)) by rw [htk, joinS_snoc _ _ hne, HX.out])
        have hes : ((x ++ ⟨#[44, 32]⟩) ++ s).size ≤ 1100000000 := by rw [HE.out]; exact HTK.out (j + 1)
        have e3 : (x ++ (⟨#[44, 32]⟩ : ByteArray)).size = x.size + 2 := by rw [ByteArray.size_append, e2]
        have hss : s.size ≤ 1100000000 := by rw [ByteArray.size_append] at hes; omega
        clear hall hs htk hne
        go_wp2_with fail
        go_roundw
        case rel => exact ⟨j + 1, _, by omega, by go_num, rfl, hes, HE, by first | rfl | trivial⟩
        case measure => first | (simp [intOf]; done) | (simp [intOf]; omega)
theorem spec_Level (k1 u1 : Int) (b1 o1 : Nat) (w : World) (x0 : w.cell? ⟨b1, o1, none⟩ = some (.int .i64 k1)) (x1 : w.cell? ⟨b1, o1 + 1, none⟩ = some (.int .i64 u1)) :
    Calls Tryz.prog 46 #[.pointer (some ⟨b1, o1, none⟩)] w fun e w' => e = .returned (.int .i64 (tmLev k1 u1)) ∧ w = w' := by
  by_cases h4 : k1 = 4
  case pos =>
    subst h4
    have HL := hid (show tmLev 4 u1 = 0 by unfold tmLev; simp)
    go_enter Tryz.func46, Tryz.ntmps46
    go_wp2_with fail
    go_ret
    exact ⟨ret_int HL.out.symm, rfl⟩
  case neg =>
  by_cases h7 : k1 = 7
  case pos =>
    subst h7
    have HL := hid (show tmLev 7 u1 = 0 by unfold tmLev; simp)
    go_enter Tryz.func46, Tryz.ntmps46
    go_wp2_with fail
    go_ret
    exact ⟨ret_int HL.out.symm, rfl⟩
  case neg =>
  by_cases h11 : k1 = 11
  case pos =>
    subst h11
    have HL := hid (show tmLev 11 u1 = 0 by unfold tmLev; simp)
    go_enter Tryz.func46, Tryz.ntmps46
    go_wp2_with fail
    go_ret
    exact ⟨ret_int HL.out.symm, rfl⟩
  case neg =>
  by_cases h5 : k1 = 5
  case pos =>
    subst h5
    have HL := hid (show tmLev 5 u1 = 4 by unfold tmLev; simp)
    go_enter Tryz.func46, Tryz.ntmps46
    go_wp2_with fail
    go_ret
    exact ⟨ret_int HL.out.symm, rfl⟩
  case neg =>
  by_cases h3 : k1 = 3
  case neg =>
    have HL := hid (show tmLev k1 u1 = 5 by unfold tmLev; simp [*])
    have g4 : (k1 == 4) = false := by simp [h4]
    have g7 : (k1 == 7) = false := by simp [h7]
    have g11 : (k1 == 11) = false := by simp [h11]
    have g5 : (k1 == 5) = false := by simp [h5]
    have g3 : (k1 == 3) = false := by simp [h3]
    clear h4 h7 h11 h5 h3
    go_enter Tryz.func46, Tryz.ntmps46
    go_wp2_with fail
    go_ret
    exact ⟨ret_int HL.out.symm, rfl⟩
  case pos =>
    subst h3
    clear h4 h7 h11 h5
    by_cases y5 : u1 = 5
    case pos =>
      subst y5
      have HL := hid (show tmLev 3 5 = 1 by decide)
      go_enter Tryz.func46, Tryz.ntmps46
      go_wp2_with fail
      go_ret
      exact ⟨ret_int HL.out.symm, rfl⟩
    case neg =>
    by_cases y6 : u1 = 6
    case pos =>
      subst y6
      have HL := hid (show tmLev 3 6 = 1 by decide)
      go_enter Tryz.func46, Tryz.ntmps46
      go_wp2_with fail
      go_ret
      exact ⟨ret_int HL.out.symm, rfl⟩
    case neg =>
    by_cases y1 : u1 = 1
    case pos =>
      subst y1
      have HL := hid (show tmLev 3 1 = 2 by decide)
      go_enter Tryz.func46, Tryz.ntmps46
      go_wp2_with fail
      go_ret
      exact ⟨ret_int HL.out.symm, rfl⟩
    case neg =>
    by_cases y2 : u1 = 2
    case pos =>
      subst y2
      have HL := hid (show tmLev 3 2 = 2 by decide)
      go_enter Tryz.func46, Tryz.ntmps46
      go_wp2_with fail
      go_ret
      exact ⟨ret_int HL.out.symm, rfl⟩
    case neg =>
    have HL := hid (show tmLev 3 u1 = 3 by unfold tmLev; simp [*])
    have z5 : (u1 == 5) = false := by simp [y5]
    have z6 : (u1 == 6) = false := by simp [y6]
    have z1 : (u1 == 1) = false := by simp [y1]
    have z2 : (u1 == 2) = false := by simp [y2]
    clear y5 y6 y1 y2
    go_enter Tryz.func46, Tryz.ntmps46
    go_wp2_with fail
    go_ret
    exact ⟨ret_int HL.out.symm, rfl⟩
theorem impl_Level (k1 : Int) (u1 : Int) (n1 : ByteArray) (tk1 : Int) (tn1 : ByteArray) (tks1 : List Ty) (ns1 : List ByteArray) (ks1 : List Tm) (atks1 : Option Addr) (ctks1 : Nat) (ans1 : Option Addr) (cns1 : Nat) (aks1 : Option Addr) (cks1 : Nat) (w : World) :
    Calls Tryz.prog 50 #[.agg #[.int .i64 k1, .int .i64 u1, .string n1, .int .i64 tk1, .string tn1, .slice atks1 tks1.length ctks1, .slice ans1 ns1.length cns1, .slice aks1 ks1.length cks1]] w fun e w' => e = .returned (.int .i64 (tmLev k1 u1)) ∧ Below w.heap.size w w' := by
  have HB := hid ((Below.refl w.heap.size w).alloc (Nat.le_refl _) (.cells #[.int .i64 k1, .int .i64 u1, .string n1, .int .i64 tk1, .string tn1, .slice atks1 tks1.length ctks1, .slice ans1 ns1.length cns1, .slice aks1 ks1.length cks1] 36))
  by_cases h4 : k1 = 4
  case pos =>
    subst h4
    have HL := hid (show tmLev 4 u1 = 0 by unfold tmLev; simp)
    go_enter Tryz.func50, Tryz.ntmps50
    go_wp2_with fail
    go_ret
    exact ⟨ret_int HL.out.symm, HB.out⟩
  case neg =>
  by_cases h7 : k1 = 7
  case pos =>
    subst h7
    have HL := hid (show tmLev 7 u1 = 0 by unfold tmLev; simp)
    go_enter Tryz.func50, Tryz.ntmps50
    go_wp2_with fail
    go_ret
    exact ⟨ret_int HL.out.symm, HB.out⟩
  case neg =>
  by_cases h11 : k1 = 11
  case pos =>
    subst h11
    have HL := hid (show tmLev 11 u1 = 0 by unfold tmLev; simp)
    go_enter Tryz.func50, Tryz.ntmps50
    go_wp2_with fail
    go_ret
    exact ⟨ret_int HL.out.symm, HB.out⟩
  case neg =>
  by_cases h5 : k1 = 5
  case pos =>
    subst h5
    have HL := hid (show tmLev 5 u1 = 4 by unfold tmLev; simp)
    go_enter Tryz.func50, Tryz.ntmps50
    go_wp2_with fail
    go_ret
    exact ⟨ret_int HL.out.symm, HB.out⟩
  case neg =>
  by_cases h3 : k1 = 3
  case neg =>
    have HL := hid (show tmLev k1 u1 = 5 by unfold tmLev; simp [*])
    have g4 : (k1 == 4) = false := by simp [h4]
    have g7 : (k1 == 7) = false := by simp [h7]
    have g11 : (k1 == 11) = false := by simp [h11]
    have g5 : (k1 == 5) = false := by simp [h5]
    have g3 : (k1 == 3) = false := by simp [h3]
    clear h4 h7 h11 h5 h3
    go_enter Tryz.func50, Tryz.ntmps50
    go_wp2_with fail
    go_ret
    exact ⟨ret_int HL.out.symm, HB.out⟩
  case pos =>
    subst h3
    clear h4 h7 h11 h5
    by_cases y5 : u1 = 5
    case pos =>
      subst y5
      have HL := hid (show tmLev 3 5 = 1 by decide)
      go_enter Tryz.func50, Tryz.ntmps50
      go_wp2_with fail
      go_ret
      exact ⟨ret_int HL.out.symm, HB.out⟩
    case neg =>
    by_cases y6 : u1 = 6
    case pos =>
      subst y6
      have HL := hid (show tmLev 3 6 = 1 by decide)
      go_enter Tryz.func50, Tryz.ntmps50
      go_wp2_with fail
      go_ret
      exact ⟨ret_int HL.out.symm, HB.out⟩
    case neg =>
    by_cases y1 : u1 = 1
    case pos =>
      subst y1
      have HL := hid (show tmLev 3 1 = 2 by decide)
      go_enter Tryz.func50, Tryz.ntmps50
      go_wp2_with fail
      go_ret
      exact ⟨ret_int HL.out.symm, HB.out⟩
    case neg =>
    by_cases y2 : u1 = 2
    case pos =>
      subst y2
      have HL := hid (show tmLev 3 2 = 2 by decide)
      go_enter Tryz.func50, Tryz.ntmps50
      go_wp2_with fail
      go_ret
      exact ⟨ret_int HL.out.symm, HB.out⟩
    case neg =>
    have HL := hid (show tmLev 3 u1 = 3 by unfold tmLev; simp [*])
    have z5 : (u1 == 5) = false := by simp [y5]
    have z6 : (u1 == 6) = false := by simp [y6]
    have z1 : (u1 == 1) = false := by simp [y1]
    have z2 : (u1 == 2) = false := by simp [y2]
    clear y5 y6 y1 y2
    go_enter Tryz.func50, Tryz.ntmps50
    go_wp2_with fail
    go_ret
    exact ⟨ret_int HL.out.symm, HB.out⟩
end Go.Proofs.YtikhofcjkcbpbaaGreatDoor
/- was: PrS -/
namespace Go.Proofs.YtikhofcjkcbpbaaGreatDoor
open Go.ChangeShapes Go.WideShapes Go.ChangeAt Go.RowKit Go.BigFrame
open Go.Sort (grow)
set_option linter.unusedVariables false

set_option maxRecDepth 100000 in
theorem print_at (k1 u1 : Int) (y : ByteArray) (b1 o1 : Nat) (l : Int) (w : World) (hy : y.size ≤ 67108930) (x0 : w.cell? ⟨b1, o1, none⟩ = some (.int .i64 k1)) (x1 : w.cell? ⟨b1, o1 + 1, none⟩ = some (.int .i64 u1))
    (hc : Calls Tryz.prog 47 #[.pointer (some ⟨b1, o1, none⟩)] w fun e w' => e = .returned (.string y) ∧ Below w.heap.size w w') :
    Calls Tryz.prog 19 #[.pointer (some ⟨b1, o1, none⟩), .int .i64 l] w fun e w' => e = .returned (.string (prn l (tmLev k1 u1, y))) ∧ Below w.heap.size w w' := by
  have HL := hid (spec_Level k1 u1 b1 o1 w x0 x1)
  have HC := hid hc
  generalize tmLev k1 u1 = L at HL ⊢
  clear x0 x1 hc
  have e1 : (⟨#[40]⟩ : ByteArray).size = 1 := rfl
  have e2 : (⟨#[41]⟩ : ByteArray).size = 1 := rfl
  have e3 : ((⟨#[40]⟩ : ByteArray) ++ y).size = 1 + y.size := by rw [ByteArray.size_append, e1]
  by_cases h : L < l
  case pos =>
    have HT := hid (show prn l (L, y) = (⟨#[40]⟩ ++ y) ++ ⟨#[41]⟩ from if_pos h)
    go_enter Tryz.func19, Tryz.ntmps19
    go_wp2_with fail
    refine HL.out.mono ?_
    rintro e w1 ⟨rfl, rfl⟩
    go_wp2_with fail
    refine HC.out.mono ?_
    rintro e w1 ⟨rfl, hb⟩
    have HB := hid hb
    clear hb
    go_wp2_with fail
    go_ret
    exact ret_strB HT.out.symm HB.out
  case neg =>
    have HT := hid (show prn l (L, y) = y from if_neg h)
    go_enter Tryz.func19, Tryz.ntmps19
    go_wp2_with fail
    refine HL.out.mono ?_
    rintro e w1 ⟨rfl, rfl⟩
    go_wp2_with fail
    refine HC.out.mono ?_
    rintro e w1 ⟨rfl, hb⟩
    have HB := hid hb
    clear hb
    go_wp2_with fail
    go_ret
    exact ret_strB HT.out.symm HB.out
def BareW (N : Nat) : Prop := ∀ (k1 : Int) (u1 : Int) (n1 : ByteArray) (tk1 : Int) (tn1 : ByteArray) (tks1 : List Ty) (ns1 : List ByteArray) (ks1 : List Tm) (atks1 : Option Addr) (ctks1 : Nat) (ans1 : Option Addr) (cns1 : Nat) (aks1 : Option Addr) (cks1 : Nat) (b1 o1 : Nat) (w : World), Tm.bulk (Tm.mk k1 u1 n1 (Ty.mk tk1 tn1 tks1) ns1 ks1) < N → Tm.bulk (Tm.mk k1 u1 n1 (Ty.mk tk1 tn1 tks1) ns1 ks1) ≤ 1048576 → Tm.good (Tm.mk k1 u1 n1 (Ty.mk tk1 tn1 tks1) ns1 ks1) = true → Tm.isCase (Tm.mk k1 u1 n1 (Ty.mk tk1 tn1 tks1) ns1 ks1) = false → w.cell? ⟨b1, o1, none⟩ = some (.int .i64 k1) → w.cell? ⟨b1, o1 + 1, none⟩ = some (.int .i64 u1) → w.cell? ⟨b1, o1 + 2, none⟩ = some (.string n1) → w.cell? ⟨b1, o1 + 3, none⟩ = some (.int .i64 tk1) → w.cell? ⟨b1, o1 + 4, none⟩ = some (.string tn1) → w.cell? ⟨b1, o1 + 5, none⟩ = some (.slice atks1 tks1.length ctks1) → w.cell? ⟨b1, o1 + 6, none⟩ = some (.slice ans1 ns1.length cns1) → w.cell? ⟨b1, o1 + 7, none⟩ = some (.slice aks1 ks1.length cks1) → RdS w (Tm.d (Tm.mk k1 u1 n1 (Ty.mk tk1 tn1 tks1) ns1 ks1)) [.int .i64 k1, .int .i64 u1, .string n1, .int .i64 tk1, .string tn1, .slice atks1 tks1.length ctks1, .slice ans1 ns1.length cns1, .slice aks1 ks1.length cks1] →
  Calls Tryz.prog 47 #[.pointer (some ⟨b1, o1, none⟩)] w fun e w' => e = .returned (.string (Tm.text (Tm.mk k1 u1 n1 (Ty.mk tk1 tn1 tks1) ns1 ks1))) ∧ Below w.heap.size w w'
theorem print_of (N : Nat) (ih : BareW N) (k1 : Int) (u1 : Int) (n1 : ByteArray) (tk1 : Int) (tn1 : ByteArray) (tks1 : List Ty) (ns1 : List ByteArray) (ks1 : List Tm) (atks1 : Option Addr) (ctks1 : Nat) (ans1 : Option Addr) (cns1 : Nat) (aks1 : Option Addr) (cks1 : Nat) (b1 o1 : Nat) (l : Int) (w : World) (hN : Tm.bulk (Tm.mk k1 u1 n1 (Ty.mk tk1 tn1 tks1) ns1 ks1) < N) (hM : Tm.bulk (Tm.mk k1 u1 n1 (Ty.mk tk1 tn1 tks1) ns1 ks1) ≤ 1048576) (hg : Tm.good (Tm.mk k1 u1 n1 (Ty.mk tk1 tn1 tks1) ns1 ks1) = true) (hcs : Tm.isCase (Tm.mk k1 u1 n1 (Ty.mk tk1 tn1 tks1) ns1 ks1) = false) (x0 : w.cell? ⟨b1, o1, none⟩ = some (.int .i64 k1)) (x1 : w.cell? ⟨b1, o1 + 1, none⟩ = some (.int .i64 u1)) (x2 : w.cell? ⟨b1, o1 + 2, none⟩ = some (.string n1)) (x3 : w.cell? ⟨b1, o1 + 3, none⟩ = some (.int .i64 tk1)) (x4 : w.cell? ⟨b1, o1 + 4, none⟩ = some (.string tn1)) (x5 : w.cell? ⟨b1, o1 + 5, none⟩ = some (.slice atks1 tks1.length ctks1)) (x6 : w.cell? ⟨b1, o1 + 6, none⟩ = some (.slice ans1 ns1.length cns1)) (x7 : w.cell? ⟨b1, o1 + 7, none⟩ = some (.slice aks1 ks1.length cks1)) (hr : RdS w (Tm.d (Tm.mk k1 u1 n1 (Ty.mk tk1 tn1 tks1) ns1 ks1)) [.int .i64 k1, .int .i64 u1, .string n1, .int .i64 tk1, .string tn1, .slice atks1 tks1.length ctks1, .slice ans1 ns1.length cns1, .slice aks1 ks1.length cks1]) :
    Calls Tryz.prog 19 #[.pointer (some ⟨b1, o1, none⟩), .int .i64 l] w fun e w' => e = .returned (.string (Tm.at l (Tm.mk k1 u1 n1 (Ty.mk tk1 tn1 tks1) ns1 ks1))) ∧ Below w.heap.size w w' :=
  print_at k1 u1 _ b1 o1 l w (Tm.text_small hg hM) x0 x1 (ih k1 u1 n1 tk1 tn1 tks1 ns1 ks1 atks1 ctks1 ans1 cns1 aks1 cks1 b1 o1 w hN hM hg hcs x0 x1 x2 x3 x4 x5 x6 x7 hr)
set_option maxRecDepth 100000 in
set_option maxHeartbeats 1000000 in
theorem spec_TmList (N : Nat) (ih : BareW N) (ks : List Tm) (a : Option Addr) (c : Nat) (w : World) (hl : ks.length ≤ 3) (hN : Tm.bulks ks ≤ N) (hM : Tm.bulks ks ≤ 1048576) (hg : Tm.goods ks = true) (hcs : ∀ (j : Nat) t, ks[j]? = some t → Tm.isCase t = false) (hr : RdL w (Tm.ds ks) (.slice a ks.length c)) :
    Calls Tryz.prog 76 #[.slice a ks.length c] w fun e w' => e = .returned (.string (brk (Tm.at0s ks))) ∧ Below w.heap.size w w' := by
  obtain ⟨_, _, e, h2, h3, h4⟩ := hr.eTm
  simp only [Value.slice.injEq, true_and] at e
  obtain ⟨rfl, rfl⟩ := e
  have H4 := hid h4
  have IH := hid ih
  have HG := hid hg
  have HCS := hid hcs
  have HNN := hid hN
  have HMM := hid hM
  have HPO := hid (fun (h : Tm.at0s ks ≠ []) => joinS_pos (sep := ⟨#[44, 32]⟩) h (Tm.at0s_pos ks hg))
  have hle : (Tm.at0s ks).length = ks.length := by rw [Tm.at0s, List.length_map, Tm.texts_length]
  have HLE := hid hle
  have e2 : (⟨#[44, 32]⟩ : ByteArray).size = 2 := rfl
  clear h4 ih hg hcs hN hM h2 h3 hr hle
  go_enter Tryz.func76, Tryz.ntmps76
  go_wp2_with fail
  go_loopw [3, 4] (fun t i wr => ∃ (j : Nat) (x : ByteArray), j ≤ ks.length ∧ i = .int .i64 j ∧ t = .string x ∧ x.size ≤ j * 67108936 ∧ Hid (x = joinS ⟨#[44, 32]⟩ (Tm.at0s (ks.take j))) ∧ Hid (Below w.heap.size w wr)) (fun _ i _ => ks.length - (intOf i).toNat)
  case atStart => exact ⟨0, ⟨#[]⟩, by omega, rfl, rfl, by decide, hid rfl, Below.refl _ _⟩
  case round =>
    obtain ⟨j, x, hj, rfl, rfl, hx, HX, HB⟩ := hrel
    have hxs : x.size ≤ 300000000 := by omega
    by_cases hlt : j < ks.length
    case neg =>
      have HE := hid (show x = joinS ⟨#[44, 32]⟩ (Tm.at0s ks) by rw [HX.out, List.take_of_length_le (by omega)])
      by_cases hne : ks = []
      case pos =>
        have e0 : x = ⟨#[]⟩ := by rw [HE.out, hne]; rfl
        have HZ := hid (show brk (Tm.at0s ks) = ⟨#[]⟩ by rw [hne]; rfl)
        subst e0
        clear hne hj hx hxs
        go_wp2_with fail
        go_ret
        exact ret_strB HZ.out.symm HB.out
      case neg =>
        have hne2 : Tm.at0s ks ≠ [] := fun h => hne (List.length_eq_zero_iff.1 (by rw [← HLE.out, h]; rfl))
        have HZ := hid (show brk (Tm.at0s ks) = (⟨#[91]⟩ ++ x) ++ ⟨#[93]⟩ by rw [brk_eq hne2, HE.out])
        have hxp : 1 ≤ x.size := by rw [HE.out]; exact HPO.out hne2
        have hxe := isEmpty_str hxp
        have hxl : (x.toList == []) = false := by simpa using hxe
        have e1 : (⟨#[91]⟩ : ByteArray).size = 1 := rfl
        have e3 : ((⟨#[91]⟩ : ByteArray) ++ x).size = 1 + x.size := by rw [ByteArray.size_append, e1]
        have e4 : (⟨#[93]⟩ : ByteArray).size = 1 := rfl
        clear hne hne2 hx
        go_wp2_with fail
        go_ret
        exact ret_strB HZ.out.symm HB.out
    case pos =>
      obtain ⟨b, o, rfl, hbl, hall⟩ := H4.out (by omega)
      obtain ⟨t, ht⟩ : ∃ t, ks[j]? = some t := ⟨_, List.getElem?_eq_getElem hlt⟩
      have hcse := HCS.out j t ht
      have hgk := Tm.goods_get ks j t HG.out ht
      have hbg := Tm.bulk_get ks j t ht
      have hsn := Tm.at0s_snoc ks j t ht
      obtain ⟨k3, u3, n3, ⟨tk3, tn3, tks3⟩, ns3, ks3⟩ := t
      obtain ⟨atks3, ctks3, ans3, cns3, aks3, cks3, q0, q1, q2, q3, q4, q5, q6, q7, hrk⟩ := hall j k3 u3 n3 tk3 tn3 tks3 ns3 ks3 ht
      have hc := print_of N IH.out k3 u3 n3 tk3 tn3 tks3 ns3 ks3 atks3 ctks3 ans3 cns3 aks3 cks3 b (o + j * 8) 0 wr (by have := HNN.out; omega) (by have := HMM.out; omega) hgk hcse ((HB.out.cell (p := ⟨b, o + j * 8, none⟩) hbl).trans q0) ((HB.out.cell (p := ⟨b, o + j * 8 + 1, none⟩) hbl).trans q1) ((HB.out.cell (p := ⟨b, o + j * 8 + 2, none⟩) hbl).trans q2) ((HB.out.cell (p := ⟨b, o + j * 8 + 3, none⟩) hbl).trans q3) ((HB.out.cell (p := ⟨b, o + j * 8 + 4, none⟩) hbl).trans q4) ((HB.out.cell (p := ⟨b, o + j * 8 + 5, none⟩) hbl).trans q5) ((HB.out.cell (p := ⟨b, o + j * 8 + 6, none⟩) hbl).trans q6) ((HB.out.cell (p := ⟨b, o + j * 8 + 7, none⟩) hbl).trans q7) (hrk.below HB.out)
      have hzy := Tm.at_small 0 hgk (by have := HMM.out; omega)
      generalize hy : Tm.at 0 (Tm.mk k3 u3 n3 (Ty.mk tk3 tn3 tks3) ns3 ks3) = y at hc hzy hsn
      have HC := hid hc
      have HSN := hid hsn
      clear hall H4 ht hrk hc hy q0 q1 q2 q3 q4 q5 q6 q7 hcse hgk hbg hsn
      by_cases hj0 : j = 0
      case pos =>
        subst hj0
        have e0 : x = ⟨#[]⟩ := by rw [HX.out, List.take_zero]; rfl
        subst e0
        rw [Nat.zero_mul, Nat.add_zero] at HC
        have HE := hid (show (⟨#[]⟩ : ByteArray) ++ y = joinS ⟨#[44, 32]⟩ (Tm.at0s (ks.take (0 + 1))) by rw [HSN.out]; exact WideShapes.bytes_inj (by rw [data_app]; rfl))
        have hes : ((⟨#[]⟩ : ByteArray) ++ y).size ≤ 1 * 67108936 := by rw [ByteArray.size_append]; have : (⟨#[]⟩ : ByteArray).size = 0 := rfl; omega
        clear hx hxs
        go_wp2_with fail
        refine HC.out.mono ?_
        rintro e w1 ⟨rfl, hb⟩
        have HB2 := hid (HB.out.trans (hb.mono HB.out.size))
        clear hb
        go_wp2_with fail
        go_roundw
        case rel => exact ⟨1, _, by omega, by go_num, rfl, hes, HE, HB2⟩
        case measure => first | (simp [intOf]; done) | (simp [intOf]; omega)
      case neg =>
        have gj : decide (0 < j) = true := decide_eq_true (by omega)
        have hne : Tm.at0s (ks.take j) ≠ [] := by intro h; have h2 : (Tm.at0s (ks.take j)).length = 0 := (by rw [h]; rfl); rw [Tm.at0s, List.length_map, Tm.texts_length, List.length_take] at h2; omega
        have HE := hid (show (x ++ ⟨#[44, 32]⟩) ++ y = joinS ⟨#[44, 32]⟩ (Tm.at0s (ks.take (j + 1))) by rw [HSN.out, joinS_snoc _ _ hne, HX.out])
        have e3 : (x ++ (⟨#[44, 32]⟩ : ByteArray)).size = x.size + 2 := by rw [ByteArray.size_append, e2]
        have hes : ((x ++ ⟨#[44, 32]⟩) ++ y).size ≤ (j + 1) * 67108936 := by rw [ByteArray.size_append, e3]; omega
        have HES := hid hes
        clear hne hx hes
        go_wp2_with fail
        refine HC.out.mono ?_
        rintro e w1 ⟨rfl, hb⟩
        have HB2 := hid (HB.out.trans (hb.mono HB.out.size))
        clear hb
        go_wp2_with fail
        go_roundw
        case rel => exact ⟨j + 1, _, by omega, by go_num, rfl, HES.out, HE, HB2⟩
        case measure => first | (simp [intOf]; done) | (simp [intOf]; omega)
end Go.Proofs.YtikhofcjkcbpbaaGreatDoor
/- was: PrV -/
namespace Go.Proofs.YtikhofcjkcbpbaaGreatDoor
open Go.ChangeShapes Go.WideShapes Go.ChangeAt Go.RowKit Go.BigFrame
open Go.Sort (grow)
set_option linter.unusedVariables false

set_option maxRecDepth 100000 in
set_option maxHeartbeats 8000000 in
theorem spec_bare_step (N : Nat) (ih : BareW N) : BareW (N + 1) := by
  intro k1 u1 n1 tk1 tn1 tks1 ns1 ks1 atks1 ctks1 ans1 cns1 aks1 cks1 b1 o1 w hN hM hg hcs x0 x1 x2 x3 x4 x5 x6 x7 hr
  have hbk : Tm.bulk (Tm.mk k1 u1 n1 (Ty.mk tk1 tn1 tks1) ns1 ks1) = n1.size + Ty.bulk (Ty.mk tk1 tn1 tks1) + Sr.bulks ns1 + Tm.bulks ks1 := rfl
  obtain ⟨hok, hco, hgs⟩ := Tm.good_parts hg
  have hlu := okTm_lint hok
  have hrt := RdS.subTm_t hr
  obtain ⟨_, ⟨lou, hiu⟩, zn, _, hns, hks⟩ := hr.fTm
  obtain ⟨_, _, e, h2, h3, h4⟩ := hks.eTm
  simp only [Value.slice.injEq, true_and] at e
  obtain ⟨rfl, rfl⟩ := e
  have hlb := Tm.bulks_length ks1
  have hn1 : n1.size ≤ 1048576 := by omega
  clear h2 h3 hr
  have HKS := hid hks
  clear hks
  rcases okTm_cases hok with ⟨rfl, hn, _⟩ | ⟨rfl, hn⟩ | ⟨rfl, hn⟩ | ⟨rfl, hn, hty⟩ | ⟨rfl, hn⟩ | ⟨rfl, hn⟩ | ⟨rfl, hn⟩ | ⟨rfl, hn, _⟩ | ⟨rfl, hn, hn5⟩ | ⟨rfl, hn, _⟩ | ⟨rfl, hn⟩
  · have HT := hid (show Tm.text (Tm.mk 1 u1 n1 (Ty.mk tk1 tn1 tks1) ns1 ks1) = n1 from rfl)
    clear x1 x3 x4 x5 x6 x7 hok hgs hco hns h4 hN hM hbk ih hlb hlu hrt hg hcs zn hn lou hiu
    go_enter Tryz.func47, Tryz.ntmps47
    go_wp2_with fail
    go_ret
    exact ret_strB HT.out.symm (Below.refl _ _)
  · have HC := hid (spec_Decimal u1 lou hiu w)
    have hsz : (⟨(Lib.itoa u1).toArray⟩ : ByteArray).size ≤ 11 := dec_size hlu
    clear x2 x3 x4 x5 x6 x7 hok hgs hco hns h4 hN hM hbk ih hlb hlu hrt hg hcs zn hn
    by_cases hneg : u1 < 0
    case pos =>
      have HT := hid (show Tm.text (Tm.mk 2 u1 n1 (Ty.mk tk1 tn1 tks1) ns1 ks1) = (((⟨#[40]⟩ : ByteArray) ++ (⟨(Lib.itoa u1).toArray⟩ : ByteArray)) ++ (⟨#[41]⟩ : ByteArray)) from if_pos hneg)
      have le1 : (⟨#[40]⟩ : ByteArray).size = 1 := rfl
      have le2 : (⟨#[41]⟩ : ByteArray).size = 1 := rfl
      have ce1 : ((⟨#[40]⟩ : ByteArray) ++ (⟨(Lib.itoa u1).toArray⟩ : ByteArray)).size = 1 + (⟨(Lib.itoa u1).toArray⟩ : ByteArray).size := by rw [ByteArray.size_append, le1]
      go_enter Tryz.func47, Tryz.ntmps47
      go_wp2_with fail
      refine HC.out.mono ?_
      rintro e w1 ⟨rfl, hb⟩
      have HB := hid hb
      clear hb
      go_wp2_with fail
      go_ret
      exact ret_strB HT.out.symm HB.out
    case neg =>
      have HT := hid (show Tm.text (Tm.mk 2 u1 n1 (Ty.mk tk1 tn1 tks1) ns1 ks1) = (⟨(Lib.itoa u1).toArray⟩ : ByteArray) from if_neg hneg)
      go_enter Tryz.func47, Tryz.ntmps47
      go_wp2_with fail
      refine HC.out.mono ?_
      rintro e w1 ⟨rfl, hb⟩
      have HB := hid hb
      clear hb
      go_wp2_with fail
      go_ret
      exact ret_strB HT.out.symm HB.out
  · obtain ⟨⟨k2, u2, n2, ⟨tk2, tn2, tks2⟩, ns2, ks2⟩, ⟨k3, u3, n3, ⟨tk3, tn3, tks3⟩, ns3, ks3⟩, rfl⟩ : ∃ a b, ks1 = [a, b] := by
      match ks1, hn with
      | [a, b], _ => exact ⟨a, b, rfl⟩
    obtain ⟨b, o, rfl, hbl, hall⟩ := h4 (by simp)
    obtain ⟨atks2, ctks2, ans2, cns2, aks2, cks2, q20, q21, q22, q23, q24, q25, q26, q27, hr2⟩ := hall 0 k2 u2 n2 tk2 tn2 tks2 ns2 ks2 rfl
    have hcs2 := casesOk_get hco (j := 0) rfl
    have hg2 := Tm.goods_get _ 0 _ hgs rfl
    have hbg2 := Tm.bulk_get _ 0 _ (show ([Tm.mk k2 u2 n2 (Ty.mk tk2 tn2 tks2) ns2 ks2, Tm.mk k3 u3 n3 (Ty.mk tk3 tn3 tks3) ns3 ks3] : List Tm)[0]? = some _ from rfl)
    obtain ⟨atks3, ctks3, ans3, cns3, aks3, cks3, q30, q31, q32, q33, q34, q35, q36, q37, hr3⟩ := hall 1 k3 u3 n3 tk3 tn3 tks3 ns3 ks3 rfl
    have hcs3 := casesOk_get hco (j := 1) rfl
    have hg3 := Tm.goods_get _ 1 _ hgs rfl
    have hbg3 := Tm.bulk_get _ 1 _ (show ([Tm.mk k2 u2 n2 (Ty.mk tk2 tn2 tks2) ns2 ks2, Tm.mk k3 u3 n3 (Ty.mk tk3 tn3 tks3) ns3 ks3] : List Tm)[1]? = some _ from rfl)
    clear hall h4
    simp only [Nat.zero_mul, Nat.add_zero] at q20 q21 q22 q23 q24 q25 q26 q27
    have hz2 := Tm.text_small hg2 (by omega)
    simp only [Nat.one_mul] at q30 q31 q32 q33 q34 q35 q36 q37
    have hz3 := Tm.text_small hg3 (by omega)
    obtain ⟨L, hL⟩ : ∃ L, tmLev 3 u1 = L := ⟨_, rfl⟩
    have hLi := tmLev_in 3 u1
    rw [hL] at hLi
    have HLV := hid (spec_Level 3 u1 b1 o1 w x0 x1)
    rw [hL] at HLV
    by_cases hl1 : L = 1
    case pos =>
      subst hl1
      have hc0 := fun d os => Calls.regrown_of (print_of N ih k2 u2 n2 tk2 tn2 tks2 ns2 ks2 atks2 ctks2 ans2 cns2 aks2 cks2 b o (2) (grow (redrawn w d) os) (by omega) (by omega) hg2 (by first | exact hcs2 | simpa using hcs2) (cell_regrown q20 d os) (cell_regrown q21 d os) (cell_regrown q22 d os) (cell_regrown q23 d os) (cell_regrown q24 d os) (cell_regrown q25 d os) (cell_regrown q26 d os) (cell_regrown q27 d os) (hr2.below (below_regrown _ d os)))
      have hc1 := fun d os => Calls.regrown_of (print_of N ih k3 u3 n3 tk3 tn3 tks3 ns3 ks3 atks3 ctks3 ans3 cns3 aks3 cks3 b (o + 8) (2) (grow (redrawn w d) os) (by omega) (by omega) hg3 (by first | exact hcs3 | simpa using hcs3) (cell_regrown q30 d os) (cell_regrown q31 d os) (cell_regrown q32 d os) (cell_regrown q33 d os) (cell_regrown q34 d os) (cell_regrown q35 d os) (cell_regrown q36 d os) (cell_regrown q37 d os) (hr3.below (below_regrown _ d os)))
      have hct := fun d os => Calls.regrown_of (spec_OperatorText u1 (grow (redrawn w d) os))
      have hzt := opText_leP u1
      have hp0 := Tm.at_small (2) hg2 (by omega)
      have hp1 := Tm.at_small (2) hg3 (by omega)
      have HT := hid (show Tm.text (Tm.mk 3 u1 n1 (Ty.mk tk1 tn1 tks1) ns1 [Tm.mk k2 u2 n2 (Ty.mk tk2 tn2 tks2) ns2 ks2, Tm.mk k3 u3 n3 (Ty.mk tk3 tn3 tks3) ns3 ks3]) = ((((Tm.at (2) (Tm.mk k2 u2 n2 (Ty.mk tk2 tn2 tks2) ns2 ks2) ++ (⟨#[32]⟩ : ByteArray)) ++ opText u1) ++ (⟨#[32]⟩ : ByteArray)) ++ Tm.at (2) (Tm.mk k3 u3 n3 (Ty.mk tk3 tn3 tks3) ns3 ks3)) from (by rw [Tm.text, tmTxt, if_neg (by omega), if_pos rfl]; unfold opLeft; rw [hL, if_pos rfl]; rfl))
      generalize Tm.at (2) (Tm.mk k2 u2 n2 (Ty.mk tk2 tn2 tks2) ns2 ks2) = p0 at hc0 hp0 HT
      generalize Tm.at (2) (Tm.mk k3 u3 n3 (Ty.mk tk3 tn3 tks3) ns3 ks3) = p1 at hc1 hp1 HT
      generalize opText u1 = z at hct hzt HT
      have HC0 := hid hc0
      have HC1 := hid hc1
      have HCT := hid hct
      replace x7 : w.cell? ⟨b1, o1 + 7, none⟩ = some (.slice (some ⟨b, o, none⟩) 2 cks1) := x7
      have d7 := cell_regrown x7
      have d1 := cell_regrown x1
      have le1 : (⟨#[32]⟩ : ByteArray).size = 1 := rfl
      have ce1 : (p0 ++ (⟨#[32]⟩ : ByteArray)).size = p0.size + 1 := by rw [ByteArray.size_append, le1]
      have ce2 : ((p0 ++ (⟨#[32]⟩ : ByteArray)) ++ z).size = p0.size + 1 + z.size := by rw [ByteArray.size_append, ce1]
      have ce3 : (((p0 ++ (⟨#[32]⟩ : ByteArray)) ++ z) ++ (⟨#[32]⟩ : ByteArray)).size = p0.size + 1 + z.size + 1 := by rw [ByteArray.size_append, ce2, le1]
      clear hc0 hc1 q20 q21 q22 q23 q24 q25 q26 q27 q30 q31 q32 q33 q34 q35 q36 q37 hr2 hcs2 hg2 hbg2 hz2 hr3 hcs3 hg3 hbg3 hz3 hct
      clear hok hgs hco hns hN hM hbk ih hlb hlu hrt hg hcs zn hn lou hiu x2 x3 x4 x5 x6 x7
      clear hL
      go_enter Tryz.func47, Tryz.ntmps47
      go_wp2_with fail
      refine HLV.out.mono ?_
      rintro e w1 ⟨rfl, rfl⟩
      go_wp2_with fail
      refine wp_region_quiet_below (by kernel_rfl) (by kernel_rfl) ?_
      repeat (go_big_quiet_step (first | (with_reducible exact HC0.out _ _) | (with_reducible exact HC1.out _ _) | (with_reducible exact HCT.out _ _)))
      refine wpQuiet_nil ?_
      intro _ hw'
      obtain ⟨⟨dq, osq⟩, hw''⟩ := hw'
      subst hw''
      have HB1 := hid (below_regrown w dq osq)
      clear HC0 HC1 HCT d7 d1
      go_wp2_with fail
      go_ret
      exact ret_strB HT.out.symm HB1.out
    case neg =>
      have gl : (L == 1) = false := by simp [hl1]
      have es : wrap64 (L + 1) = L + 1 := IntWalk.wrap64_in _ (by omega)
      have hc0 := fun d os => Calls.regrown_of (print_of N ih k2 u2 n2 tk2 tn2 tks2 ns2 ks2 atks2 ctks2 ans2 cns2 aks2 cks2 b o (L) (grow (redrawn w d) os) (by omega) (by omega) hg2 (by first | exact hcs2 | simpa using hcs2) (cell_regrown q20 d os) (cell_regrown q21 d os) (cell_regrown q22 d os) (cell_regrown q23 d os) (cell_regrown q24 d os) (cell_regrown q25 d os) (cell_regrown q26 d os) (cell_regrown q27 d os) (hr2.below (below_regrown _ d os)))
      have hc1 := fun d os => Calls.regrown_of (print_of N ih k3 u3 n3 tk3 tn3 tks3 ns3 ks3 atks3 ctks3 ans3 cns3 aks3 cks3 b (o + 8) (L + 1) (grow (redrawn w d) os) (by omega) (by omega) hg3 (by first | exact hcs3 | simpa using hcs3) (cell_regrown q30 d os) (cell_regrown q31 d os) (cell_regrown q32 d os) (cell_regrown q33 d os) (cell_regrown q34 d os) (cell_regrown q35 d os) (cell_regrown q36 d os) (cell_regrown q37 d os) (hr3.below (below_regrown _ d os)))
      have hct := fun d os => Calls.regrown_of (spec_OperatorText u1 (grow (redrawn w d) os))
      have hzt := opText_leP u1
      have hp0 := Tm.at_small (L) hg2 (by omega)
      have hp1 := Tm.at_small (L + 1) hg3 (by omega)
      have HT := hid (show Tm.text (Tm.mk 3 u1 n1 (Ty.mk tk1 tn1 tks1) ns1 [Tm.mk k2 u2 n2 (Ty.mk tk2 tn2 tks2) ns2 ks2, Tm.mk k3 u3 n3 (Ty.mk tk3 tn3 tks3) ns3 ks3]) = ((((Tm.at (L) (Tm.mk k2 u2 n2 (Ty.mk tk2 tn2 tks2) ns2 ks2) ++ (⟨#[32]⟩ : ByteArray)) ++ opText u1) ++ (⟨#[32]⟩ : ByteArray)) ++ Tm.at (L + 1) (Tm.mk k3 u3 n3 (Ty.mk tk3 tn3 tks3) ns3 ks3)) from (by rw [Tm.text, tmTxt, if_neg (by omega), if_pos rfl]; unfold opLeft; rw [hL, if_neg hl1]; rfl))
      generalize Tm.at (L) (Tm.mk k2 u2 n2 (Ty.mk tk2 tn2 tks2) ns2 ks2) = p0 at hc0 hp0 HT
      generalize Tm.at (L + 1) (Tm.mk k3 u3 n3 (Ty.mk tk3 tn3 tks3) ns3 ks3) = p1 at hc1 hp1 HT
      generalize opText u1 = z at hct hzt HT
      have HC0 := hid hc0
      have HC1 := hid hc1
      have HCT := hid hct
      replace x7 : w.cell? ⟨b1, o1 + 7, none⟩ = some (.slice (some ⟨b, o, none⟩) 2 cks1) := x7
      have d7 := cell_regrown x7
      have d1 := cell_regrown x1
      have le1 : (⟨#[32]⟩ : ByteArray).size = 1 := rfl
      have ce1 : (p0 ++ (⟨#[32]⟩ : ByteArray)).size = p0.size + 1 := by rw [ByteArray.size_append, le1]
      have ce2 : ((p0 ++ (⟨#[32]⟩ : ByteArray)) ++ z).size = p0.size + 1 + z.size := by rw [ByteArray.size_append, ce1]
      have ce3 : (((p0 ++ (⟨#[32]⟩ : ByteArray)) ++ z) ++ (⟨#[32]⟩ : ByteArray)).size = p0.size + 1 + z.size + 1 := by rw [ByteArray.size_append, ce2, le1]
      clear hc0 hc1 q20 q21 q22 q23 q24 q25 q26 q27 q30 q31 q32 q33 q34 q35 q36 q37 hr2 hcs2 hg2 hbg2 hz2 hr3 hcs3 hg3 hbg3 hz3 hct
      clear hok hgs hco hns hN hM hbk ih hlb hlu hrt hg hcs zn hn lou hiu x2 x3 x4 x5 x6 x7
      clear hL hl1
      go_enter Tryz.func47, Tryz.ntmps47
      go_wp2_with fail
      refine HLV.out.mono ?_
      rintro e w1 ⟨rfl, rfl⟩
      go_wp2_with fail
      refine wp_region_quiet_below (by kernel_rfl) (by kernel_rfl) ?_
      repeat (go_big_quiet_step (first | (with_reducible exact HC0.out _ _) | (with_reducible exact HC1.out _ _) | (with_reducible exact HCT.out _ _)))
      refine wpQuiet_nil ?_
      intro _ hw'
      obtain ⟨⟨dq, osq⟩, hw''⟩ := hw'
      subst hw''
      have HB1 := hid (below_regrown w dq osq)
      clear HC0 HC1 HCT d7 d1
      go_wp2_with fail
      go_ret
      exact ret_strB HT.out.symm HB1.out
  · obtain ⟨⟨k2, u2, n2, ⟨tk2, tn2, tks2⟩, ns2, ks2⟩, rfl⟩ : ∃ a, ks1 = [a] := by
      match ks1, hn with
      | [a], _ => exact ⟨a, rfl⟩
    obtain ⟨b, o, rfl, hbl, hall⟩ := h4 (by simp)
    obtain ⟨atks2, ctks2, ans2, cns2, aks2, cks2, q20, q21, q22, q23, q24, q25, q26, q27, hr2⟩ := hall 0 k2 u2 n2 tk2 tn2 tks2 ns2 ks2 rfl
    have hcs2 := casesOk_get hco (j := 0) rfl
    have hg2 := Tm.goods_get _ 0 _ hgs rfl
    have hbg2 := Tm.bulk_get _ 0 _ (show ([Tm.mk k2 u2 n2 (Ty.mk tk2 tn2 tks2) ns2 ks2] : List Tm)[0]? = some _ from rfl)
    clear hall h4
    simp only [Nat.zero_mul, Nat.add_zero] at q20 q21 q22 q23 q24 q25 q26 q27
    have hz2 := Tm.text_small hg2 (by omega)
    have hc0 := fun d os => Calls.regrown_of (print_of N ih k2 u2 n2 tk2 tn2 tks2 ns2 ks2 atks2 ctks2 ans2 cns2 aks2 cks2 b o (0) (grow (redrawn w d) os) (by omega) (by omega) hg2 (by first | exact hcs2 | simpa using hcs2) (cell_regrown q20 d os) (cell_regrown q21 d os) (cell_regrown q22 d os) (cell_regrown q23 d os) (cell_regrown q24 d os) (cell_regrown q25 d os) (cell_regrown q26 d os) (cell_regrown q27 d os) (hr2.below (below_regrown _ d os)))
    have hct := fun d os => Calls.regrown_of (spec_TypeText tk1 tn1 tks1 atks1 ctks1 (grow (redrawn w d) os) (by omega) (hrt.below (below_regrown _ d os)))
    have htt : tyText (Ty.mk tk1 tn1 tks1) = Ty.text (Ty.mk tk1 tn1 tks1) := by unfold tyText; rw [if_pos hty]
    rw [htt] at hct
    have hzt := Ty.text_small (t := Ty.mk tk1 tn1 tks1) (by omega)
    have hp0 := Tm.at_small (0) hg2 (by omega)
    have HT := hid (show Tm.text (Tm.mk 4 u1 n1 (Ty.mk tk1 tn1 tks1) ns1 [Tm.mk k2 u2 n2 (Ty.mk tk2 tn2 tks2) ns2 ks2]) = ((((((⟨#[92]⟩ : ByteArray) ++ n1) ++ (⟨#[58]⟩ : ByteArray)) ++ Ty.text (Ty.mk tk1 tn1 tks1)) ++ (⟨#[46, 32]⟩ : ByteArray)) ++ Tm.at (0) (Tm.mk k2 u2 n2 (Ty.mk tk2 tn2 tks2) ns2 ks2)) from rfl)
    generalize Tm.at (0) (Tm.mk k2 u2 n2 (Ty.mk tk2 tn2 tks2) ns2 ks2) = p0 at hc0 hp0 HT
    generalize Ty.text (Ty.mk tk1 tn1 tks1) = ty at hct hzt HT
    have HC0 := hid hc0
    have HCT := hid hct
    replace x7 : w.cell? ⟨b1, o1 + 7, none⟩ = some (.slice (some ⟨b, o, none⟩) 1 cks1) := x7
    have d7 := cell_regrown x7
    have d2 := cell_regrown x2
    have d3 := cell_regrown x3
    have d4 := cell_regrown x4
    have d5 := cell_regrown x5
    have le1 : (⟨#[92]⟩ : ByteArray).size = 1 := rfl
    have le2 : (⟨#[58]⟩ : ByteArray).size = 1 := rfl
    have le3 : (⟨#[46, 32]⟩ : ByteArray).size = 2 := rfl
    have ce1 : ((⟨#[92]⟩ : ByteArray) ++ n1).size = 1 + n1.size := by rw [ByteArray.size_append, le1]
    have ce2 : (((⟨#[92]⟩ : ByteArray) ++ n1) ++ (⟨#[58]⟩ : ByteArray)).size = 1 + n1.size + 1 := by rw [ByteArray.size_append, ce1, le2]
    have ce3 : ((((⟨#[92]⟩ : ByteArray) ++ n1) ++ (⟨#[58]⟩ : ByteArray)) ++ ty).size = 1 + n1.size + 1 + ty.size := by rw [ByteArray.size_append, ce2]
    have ce4 : (((((⟨#[92]⟩ : ByteArray) ++ n1) ++ (⟨#[58]⟩ : ByteArray)) ++ ty) ++ (⟨#[46, 32]⟩ : ByteArray)).size = 1 + n1.size + 1 + ty.size + 2 := by rw [ByteArray.size_append, ce3, le3]
    clear hc0 q20 q21 q22 q23 q24 q25 q26 q27 hr2 hcs2 hg2 hbg2 hz2 hct htt
    clear hok hgs hco hns hN hM hbk ih hlb hlu hrt hg hcs zn hn lou hiu x1 x2 x3 x4 x5 x6 x7 hty
    go_enter Tryz.func47, Tryz.ntmps47
    go_wp2_with fail
    refine wp_region_quiet_below (by kernel_rfl) (by kernel_rfl) ?_
    repeat (go_big_quiet_step (first | (with_reducible exact HC0.out _ _) | (with_reducible exact HCT.out _ _)))
    refine wpQuiet_nil ?_
    intro _ hw'
    obtain ⟨⟨dq, osq⟩, hw''⟩ := hw'
    subst hw''
    have HB1 := hid (below_regrown w dq osq)
    clear HC0 HCT d7 d2 d3 d4 d5
    go_wp2_with fail
    go_ret
    exact ret_strB HT.out.symm HB1.out
  · obtain ⟨⟨k2, u2, n2, ⟨tk2, tn2, tks2⟩, ns2, ks2⟩, ⟨k3, u3, n3, ⟨tk3, tn3, tks3⟩, ns3, ks3⟩, rfl⟩ : ∃ a b, ks1 = [a, b] := by
      match ks1, hn with
      | [a, b], _ => exact ⟨a, b, rfl⟩
    obtain ⟨b, o, rfl, hbl, hall⟩ := h4 (by simp)
    obtain ⟨atks2, ctks2, ans2, cns2, aks2, cks2, q20, q21, q22, q23, q24, q25, q26, q27, hr2⟩ := hall 0 k2 u2 n2 tk2 tn2 tks2 ns2 ks2 rfl
    have hcs2 := casesOk_get hco (j := 0) rfl
    have hg2 := Tm.goods_get _ 0 _ hgs rfl
    have hbg2 := Tm.bulk_get _ 0 _ (show ([Tm.mk k2 u2 n2 (Ty.mk tk2 tn2 tks2) ns2 ks2, Tm.mk k3 u3 n3 (Ty.mk tk3 tn3 tks3) ns3 ks3] : List Tm)[0]? = some _ from rfl)
    obtain ⟨atks3, ctks3, ans3, cns3, aks3, cks3, q30, q31, q32, q33, q34, q35, q36, q37, hr3⟩ := hall 1 k3 u3 n3 tk3 tn3 tks3 ns3 ks3 rfl
    have hcs3 := casesOk_get hco (j := 1) rfl
    have hg3 := Tm.goods_get _ 1 _ hgs rfl
    have hbg3 := Tm.bulk_get _ 1 _ (show ([Tm.mk k2 u2 n2 (Ty.mk tk2 tn2 tks2) ns2 ks2, Tm.mk k3 u3 n3 (Ty.mk tk3 tn3 tks3) ns3 ks3] : List Tm)[1]? = some _ from rfl)
    clear hall h4
    simp only [Nat.zero_mul, Nat.add_zero] at q20 q21 q22 q23 q24 q25 q26 q27
    have hz2 := Tm.text_small hg2 (by omega)
    simp only [Nat.one_mul] at q30 q31 q32 q33 q34 q35 q36 q37
    have hz3 := Tm.text_small hg3 (by omega)
    have hc0 := fun d os => Calls.regrown_of (print_of N ih k2 u2 n2 tk2 tn2 tks2 ns2 ks2 atks2 ctks2 ans2 cns2 aks2 cks2 b o (4) (grow (redrawn w d) os) (by omega) (by omega) hg2 (by first | exact hcs2 | simpa using hcs2) (cell_regrown q20 d os) (cell_regrown q21 d os) (cell_regrown q22 d os) (cell_regrown q23 d os) (cell_regrown q24 d os) (cell_regrown q25 d os) (cell_regrown q26 d os) (cell_regrown q27 d os) (hr2.below (below_regrown _ d os)))
    have hc1 := fun d os => Calls.regrown_of (print_of N ih k3 u3 n3 tk3 tn3 tks3 ns3 ks3 atks3 ctks3 ans3 cns3 aks3 cks3 b (o + 8) (5) (grow (redrawn w d) os) (by omega) (by omega) hg3 (by first | exact hcs3 | simpa using hcs3) (cell_regrown q30 d os) (cell_regrown q31 d os) (cell_regrown q32 d os) (cell_regrown q33 d os) (cell_regrown q34 d os) (cell_regrown q35 d os) (cell_regrown q36 d os) (cell_regrown q37 d os) (hr3.below (below_regrown _ d os)))
    have hp0 := Tm.at_small (4) hg2 (by omega)
    have hp1 := Tm.at_small (5) hg3 (by omega)
    have HT := hid (show Tm.text (Tm.mk 5 u1 n1 (Ty.mk tk1 tn1 tks1) ns1 [Tm.mk k2 u2 n2 (Ty.mk tk2 tn2 tks2) ns2 ks2, Tm.mk k3 u3 n3 (Ty.mk tk3 tn3 tks3) ns3 ks3]) = ((Tm.at (4) (Tm.mk k2 u2 n2 (Ty.mk tk2 tn2 tks2) ns2 ks2) ++ (⟨#[32]⟩ : ByteArray)) ++ Tm.at (5) (Tm.mk k3 u3 n3 (Ty.mk tk3 tn3 tks3) ns3 ks3)) from rfl)
    generalize Tm.at (4) (Tm.mk k2 u2 n2 (Ty.mk tk2 tn2 tks2) ns2 ks2) = p0 at hc0 hp0 HT
    generalize Tm.at (5) (Tm.mk k3 u3 n3 (Ty.mk tk3 tn3 tks3) ns3 ks3) = p1 at hc1 hp1 HT
    have HC0 := hid hc0
    have HC1 := hid hc1
    replace x7 : w.cell? ⟨b1, o1 + 7, none⟩ = some (.slice (some ⟨b, o, none⟩) 2 cks1) := x7
    have d7 := cell_regrown x7
    have le1 : (⟨#[32]⟩ : ByteArray).size = 1 := rfl
    have ce1 : (p0 ++ (⟨#[32]⟩ : ByteArray)).size = p0.size + 1 := by rw [ByteArray.size_append, le1]
    clear hc0 hc1 q20 q21 q22 q23 q24 q25 q26 q27 q30 q31 q32 q33 q34 q35 q36 q37 hr2 hcs2 hg2 hbg2 hz2 hr3 hcs3 hg3 hbg3 hz3
    clear hok hgs hco hns hN hM hbk ih hlb hlu hrt hg hcs zn hn lou hiu x1 x2 x3 x4 x5 x6 x7
    go_enter Tryz.func47, Tryz.ntmps47
    go_wp2_with fail
    refine wp_region_quiet_below (by kernel_rfl) (by kernel_rfl) ?_
    repeat (go_big_quiet_step (first | (with_reducible exact HC0.out _ _) | (with_reducible exact HC1.out _ _)))
    refine wpQuiet_nil ?_
    intro _ hw'
    obtain ⟨⟨dq, osq⟩, hw''⟩ := hw'
    subst hw''
    have HB1 := hid (below_regrown w dq osq)
    clear HC0 HC1 d7
    go_wp2_with fail
    go_ret
    exact ret_strB HT.out.symm HB1.out
  · obtain ⟨⟨k2, u2, n2, ⟨tk2, tn2, tks2⟩, ns2, ks2⟩, rfl⟩ : ∃ a, ks1 = [a] := by
      match ks1, hn with
      | [a], _ => exact ⟨a, rfl⟩
    obtain ⟨b, o, rfl, hbl, hall⟩ := h4 (by simp)
    obtain ⟨atks2, ctks2, ans2, cns2, aks2, cks2, q20, q21, q22, q23, q24, q25, q26, q27, hr2⟩ := hall 0 k2 u2 n2 tk2 tn2 tks2 ns2 ks2 rfl
    have hcs2 := casesOk_get hco (j := 0) rfl
    have hg2 := Tm.goods_get _ 0 _ hgs rfl
    have hbg2 := Tm.bulk_get _ 0 _ (show ([Tm.mk k2 u2 n2 (Ty.mk tk2 tn2 tks2) ns2 ks2] : List Tm)[0]? = some _ from rfl)
    clear hall h4
    simp only [Nat.zero_mul, Nat.add_zero] at q20 q21 q22 q23 q24 q25 q26 q27
    have hz2 := Tm.text_small hg2 (by omega)
    have hc0 := print_of N ih k2 u2 n2 tk2 tn2 tks2 ns2 ks2 atks2 ctks2 ans2 cns2 aks2 cks2 b o (5) w (by omega) (by omega) hg2 (by first | exact hcs2 | simpa using hcs2) q20 q21 q22 q23 q24 q25 q26 q27 hr2
    have hp0 := Tm.at_small 5 hg2 (by omega)
    have HT := hid (show Tm.text (Tm.mk 6 u1 n1 (Ty.mk tk1 tn1 tks1) ns1 [Tm.mk k2 u2 n2 (Ty.mk tk2 tn2 tks2) ns2 ks2]) = ((⟨#[33]⟩ : ByteArray) ++ Tm.at 5 (Tm.mk k2 u2 n2 (Ty.mk tk2 tn2 tks2) ns2 ks2)) from rfl)
    generalize Tm.at 5 (Tm.mk k2 u2 n2 (Ty.mk tk2 tn2 tks2) ns2 ks2) = p0 at hc0 hp0 HT
    have HC0 := hid hc0
    replace x7 : w.cell? ⟨b1, o1 + 7, none⟩ = some (.slice (some ⟨b, o, none⟩) 1 cks1) := x7
    have le1 : (⟨#[33]⟩ : ByteArray).size = 1 := rfl
    clear hc0 q20 q21 q22 q23 q24 q25 q26 q27 hr2 hcs2 hg2 hbg2 hz2 hok hgs hco hns hN hM hbk ih hlb hlu hrt hg hcs zn hn lou hiu x1 x2 x3 x4 x5 x6
    go_enter Tryz.func47, Tryz.ntmps47
    go_wp2_with fail
    refine HC0.out.mono ?_
    rintro e w1 ⟨rfl, hb⟩
    have HB1 := hid hb
    clear hb
    go_wp2_with fail
    go_ret
    exact ret_strB HT.out.symm HB1.out
  · obtain ⟨⟨k2, u2, n2, ⟨tk2, tn2, tks2⟩, ns2, ks2⟩, ⟨k3, u3, n3, ⟨tk3, tn3, tks3⟩, ns3, ks3⟩, rfl⟩ : ∃ a b, ks1 = [a, b] := by
      match ks1, hn with
      | [a, b], _ => exact ⟨a, b, rfl⟩
    obtain ⟨b, o, rfl, hbl, hall⟩ := h4 (by simp)
    obtain ⟨atks2, ctks2, ans2, cns2, aks2, cks2, q20, q21, q22, q23, q24, q25, q26, q27, hr2⟩ := hall 0 k2 u2 n2 tk2 tn2 tks2 ns2 ks2 rfl
    have hcs2 := casesOk_get hco (j := 0) rfl
    have hg2 := Tm.goods_get _ 0 _ hgs rfl
    have hbg2 := Tm.bulk_get _ 0 _ (show ([Tm.mk k2 u2 n2 (Ty.mk tk2 tn2 tks2) ns2 ks2, Tm.mk k3 u3 n3 (Ty.mk tk3 tn3 tks3) ns3 ks3] : List Tm)[0]? = some _ from rfl)
    obtain ⟨atks3, ctks3, ans3, cns3, aks3, cks3, q30, q31, q32, q33, q34, q35, q36, q37, hr3⟩ := hall 1 k3 u3 n3 tk3 tn3 tks3 ns3 ks3 rfl
    have hcs3 := casesOk_get hco (j := 1) rfl
    have hg3 := Tm.goods_get _ 1 _ hgs rfl
    have hbg3 := Tm.bulk_get _ 1 _ (show ([Tm.mk k2 u2 n2 (Ty.mk tk2 tn2 tks2) ns2 ks2, Tm.mk k3 u3 n3 (Ty.mk tk3 tn3 tks3) ns3 ks3] : List Tm)[1]? = some _ from rfl)
    clear hall h4
    simp only [Nat.zero_mul, Nat.add_zero] at q20 q21 q22 q23 q24 q25 q26 q27
    have hz2 := Tm.text_small hg2 (by omega)
    simp only [Nat.one_mul] at q30 q31 q32 q33 q34 q35 q36 q37
    have hz3 := Tm.text_small hg3 (by omega)
    have hc0 := fun d os => Calls.regrown_of (print_of N ih k2 u2 n2 tk2 tn2 tks2 ns2 ks2 atks2 ctks2 ans2 cns2 aks2 cks2 b o (0) (grow (redrawn w d) os) (by omega) (by omega) hg2 (by first | exact hcs2 | simpa using hcs2) (cell_regrown q20 d os) (cell_regrown q21 d os) (cell_regrown q22 d os) (cell_regrown q23 d os) (cell_regrown q24 d os) (cell_regrown q25 d os) (cell_regrown q26 d os) (cell_regrown q27 d os) (hr2.below (below_regrown _ d os)))
    have hc1 := fun d os => Calls.regrown_of (print_of N ih k3 u3 n3 tk3 tn3 tks3 ns3 ks3 atks3 ctks3 ans3 cns3 aks3 cks3 b (o + 8) (0) (grow (redrawn w d) os) (by omega) (by omega) hg3 (by first | exact hcs3 | simpa using hcs3) (cell_regrown q30 d os) (cell_regrown q31 d os) (cell_regrown q32 d os) (cell_regrown q33 d os) (cell_regrown q34 d os) (cell_regrown q35 d os) (cell_regrown q36 d os) (cell_regrown q37 d os) (hr3.below (below_regrown _ d os)))
    have hp0 := Tm.at_small (0) hg2 (by omega)
    have hp1 := Tm.at_small (0) hg3 (by omega)
    have HT := hid (show Tm.text (Tm.mk 7 u1 n1 (Ty.mk tk1 tn1 tks1) ns1 [Tm.mk k2 u2 n2 (Ty.mk tk2 tn2 tks2) ns2 ks2, Tm.mk k3 u3 n3 (Ty.mk tk3 tn3 tks3) ns3 ks3]) = ((((((⟨#[108, 101, 116, 32]⟩ : ByteArray) ++ n1) ++ (⟨#[32, 61, 32]⟩ : ByteArray)) ++ Tm.at (0) (Tm.mk k2 u2 n2 (Ty.mk tk2 tn2 tks2) ns2 ks2)) ++ (⟨#[32, 105, 110, 32]⟩ : ByteArray)) ++ Tm.at (0) (Tm.mk k3 u3 n3 (Ty.mk tk3 tn3 tks3) ns3 ks3)) from rfl)
    generalize Tm.at (0) (Tm.mk k2 u2 n2 (Ty.mk tk2 tn2 tks2) ns2 ks2) = p0 at hc0 hp0 HT
    generalize Tm.at (0) (Tm.mk k3 u3 n3 (Ty.mk tk3 tn3 tks3) ns3 ks3) = p1 at hc1 hp1 HT
    have HC0 := hid hc0
    have HC1 := hid hc1
    replace x7 : w.cell? ⟨b1, o1 + 7, none⟩ = some (.slice (some ⟨b, o, none⟩) 2 cks1) := x7
    have d7 := cell_regrown x7
    have d2 := cell_regrown x2
    have le1 : (⟨#[108, 101, 116, 32]⟩ : ByteArray).size = 4 := rfl
    have le2 : (⟨#[32, 61, 32]⟩ : ByteArray).size = 3 := rfl
    have le3 : (⟨#[32, 105, 110, 32]⟩ : ByteArray).size = 4 := rfl
    have ce1 : ((⟨#[108, 101, 116, 32]⟩ : ByteArray) ++ n1).size = 4 + n1.size := by rw [ByteArray.size_append, le1]
    have ce2 : (((⟨#[108, 101, 116, 32]⟩ : ByteArray) ++ n1) ++ (⟨#[32, 61, 32]⟩ : ByteArray)).size = 4 + n1.size + 3 := by rw [ByteArray.size_append, ce1, le2]
    have ce3 : ((((⟨#[108, 101, 116, 32]⟩ : ByteArray) ++ n1) ++ (⟨#[32, 61, 32]⟩ : ByteArray)) ++ p0).size = 4 + n1.size + 3 + p0.size := by rw [ByteArray.size_append, ce2]
    have ce4 : (((((⟨#[108, 101, 116, 32]⟩ : ByteArray) ++ n1) ++ (⟨#[32, 61, 32]⟩ : ByteArray)) ++ p0) ++ (⟨#[32, 105, 110, 32]⟩ : ByteArray)).size = 4 + n1.size + 3 + p0.size + 4 := by rw [ByteArray.size_append, ce3, le3]
    clear hc0 hc1 q20 q21 q22 q23 q24 q25 q26 q27 q30 q31 q32 q33 q34 q35 q36 q37 hr2 hcs2 hg2 hbg2 hz2 hr3 hcs3 hg3 hbg3 hz3
    clear hok hgs hco hns hN hM hbk ih hlb hlu hrt hg hcs zn hn lou hiu x1 x2 x3 x4 x5 x6 x7
    go_enter Tryz.func47, Tryz.ntmps47
    go_wp2_with fail
    refine wp_region_quiet_below (by kernel_rfl) (by kernel_rfl) ?_
    repeat (go_big_quiet_step (first | (with_reducible exact HC0.out _ _) | (with_reducible exact HC1.out _ _)))
    refine wpQuiet_nil ?_
    intro _ hw'
    obtain ⟨⟨dq, osq⟩, hw''⟩ := hw'
    subst hw''
    have HB1 := hid (below_regrown w dq osq)
    clear HC0 HC1 d7 d2
    go_wp2_with fail
    go_ret
    exact ret_strB HT.out.symm HB1.out
  · have hal := Tm.at0s_pos ks1 hgs
    have hc0 := fun d os => Calls.regrown_of (spec_TmList N ih ks1 _ _ (grow (redrawn w d) os) hn (by omega) (by omega) hgs (fun j t ht => by have h := casesOk_get hco ht; simpa using h) (HKS.out.below (below_regrown _ d os)))
    have hzb := brk_size (Tm.at0s ks1)
    have hz2 := szs_prn (Tm.texts ks1)
    have hz3 := Tm.texts_le ks1 hgs
    have hlen : (Tm.at0s ks1).length = ks1.length := by rw [Tm.at0s, List.length_map, Tm.texts_length]
    have hzs : (brk (Tm.at0s ks1)).size ≤ 67108900 := by rw [hlen] at hzb; rw [Tm.texts_length] at hz2; have h : szs (Tm.at0s ks1) = szs ((Tm.texts ks1).map (prn 0)) := rfl; omega
    have HT := hid (show Tm.text (Tm.mk 8 u1 n1 (Ty.mk tk1 tn1 tks1) ns1 ks1) = n1 ++ brk (Tm.at0s ks1) from rfl)
    generalize brk (Tm.at0s ks1) = p0 at hc0 hzs HT
    have HC0 := hid hc0
    have d2 := cell_regrown x2
    have d7 := cell_regrown x7
    clear hc0 hal hzb hz2 hz3 hlen x1 x2 x3 x4 x5 x6 x7 hok hgs hco hns h4 hN hM hbk ih hlb hlu hrt hg hcs zn hn lou hiu
    go_enter Tryz.func47, Tryz.ntmps47
    go_wp2_with fail
    refine wp_region_quiet_below (by kernel_rfl) (by kernel_rfl) ?_
    repeat (go_big_quiet_step (first | (with_reducible exact HC0.out _ _)))
    refine wpQuiet_nil ?_
    intro _ hw'
    obtain ⟨⟨dq, osq⟩, hw''⟩ := hw'
    subst hw''
    have HB1 := hid (below_regrown w dq osq)
    clear HC0 d2 d7
    go_wp2_with fail
    go_ret
    exact ret_strB HT.out.symm HB1.out
  · obtain ⟨t0, hk0⟩ : ∃ t, ks1[0]? = some t := ⟨_, List.getElem?_eq_getElem (by omega)⟩
    have HDL := hid (show ∀ j, 1 ≤ j → j ≤ ks1.length → ((Tm.at0s (ks1.take j)).drop 1).length = j - 1 from fun j _ h2 => by rw [List.length_drop, Tm.at0s, List.length_map, Tm.texts_length, List.length_take]; omega)
    obtain ⟨b, o, rfl, hbl, hall⟩ := h4 (by omega)
    have HALL := hid hall
    have hcs2 := casesOk_get hco hk0
    have hg2 := Tm.goods_get _ 0 _ hgs hk0
    have hbg2 := Tm.bulk_get _ 0 _ hk0
    have hkk := Tm.texts_get ks1 0 _ hk0
    obtain ⟨k2, u2, n2, ⟨tk2, tn2, tks2⟩, ns2, ks2⟩ := t0
    obtain ⟨atks2, ctks2, ans2, cns2, aks2, cks2, q20, q21, q22, q23, q24, q25, q26, q27, hr2⟩ := hall 0 k2 u2 n2 tk2 tn2 tks2 ns2 ks2 hk0
    simp only [Nat.zero_mul, Nat.add_zero] at q20 q21 q22 q23 q24 q25 q26 q27
    have hc0 := print_of N ih k2 u2 n2 tk2 tn2 tks2 ns2 ks2 atks2 ctks2 ans2 cns2 aks2 cks2 b o (0) w (by omega) (by omega) hg2 (by first | exact hcs2 | simpa using hcs2) q20 q21 q22 q23 q24 q25 q26 q27 hr2
    have hp0 := Tm.at_small 0 hg2 (by omega)
    have hk00 : kid0 (Tm.texts ks1) = (Tm.lev (Tm.mk k2 u2 n2 (Ty.mk tk2 tn2 tks2) ns2 ks2), Tm.text (Tm.mk k2 u2 n2 (Ty.mk tk2 tn2 tks2) ns2 ks2)) := by unfold kid0; rw [List.getD, hkk]; rfl
    have HT := hid (show Tm.text (Tm.mk 9 u1 n1 (Ty.mk tk1 tn1 tks1) ns1 ks1) = (((⟨#[109, 97, 116, 99, 104, 32]⟩ ++ Tm.at 0 (Tm.mk k2 u2 n2 (Ty.mk tk2 tn2 tks2) ns2 ks2)) ++ ⟨#[32, 123, 32]⟩) ++ joinS semi ((Tm.at0s ks1).drop 1)) ++ ⟨#[32, 125]⟩ by
      show (((⟨#[109, 97, 116, 99, 104, 32]⟩ ++ prn 0 (kid0 (Tm.texts ks1))) ++ ⟨#[32, 123, 32]⟩) ++ joinS semi (((Tm.texts ks1).drop 1).map (prn 0))) ++ ⟨#[32, 125]⟩ = _
      rw [hk00, List.map_drop]; rfl)
    generalize Tm.at 0 (Tm.mk k2 u2 n2 (Ty.mk tk2 tn2 tks2) ns2 ks2) = p0 at hc0 hp0 HT
    have HC0 := hid hc0
    have IH := hid ih
    have HG := hid hgs
    have HCO := hid hco
    have HBK := hid hbk
    have HN := hid hN
    have HM := hid hM
    have X7 := hid x7
    have XL := hid (World.block_lt_of_cell? _ _ x7)
    have f1 : (⟨#[109, 97, 116, 99, 104, 32]⟩ : ByteArray).size = 6 := rfl
    have f2 : ((⟨#[109, 97, 116, 99, 104, 32]⟩ : ByteArray) ++ p0).size = 6 + p0.size := by rw [ByteArray.size_append, f1]
    have f3 : (⟨#[32, 123, 32]⟩ : ByteArray).size = 3 := rfl
    have f4 : (((⟨#[109, 97, 116, 99, 104, 32]⟩ : ByteArray) ++ p0) ++ (⟨#[32, 123, 32]⟩ : ByteArray)).size = 6 + p0.size + 3 := by rw [ByteArray.size_append, f2, f3]
    obtain ⟨pre, hpre⟩ : ∃ pre, ((⟨#[109, 97, 116, 99, 104, 32]⟩ : ByteArray) ++ p0) ++ (⟨#[32, 123, 32]⟩ : ByteArray) = pre := ⟨_, rfl⟩
    have HPRE := hid hpre
    have hpz : pre.size ≤ 67108950 := by rw [← hpre, f4]; omega
    rw [hpre] at HT
    clear hpre hk00 hkk hc0 hr2 q20 q21 q22 q23 q24 q25 q26 q27 hcs2 hg2 hbg2 hk0 hall hok hgs hco hns hN hM hbk ih hlb hlu hrt hg hcs zn lou hiu x1 x2 x3 x4 x5 x6 h4
    go_enter Tryz.func47, Tryz.ntmps47
    go_wp2_with fail
    refine HC0.out.mono ?_
    rintro e w1 ⟨rfl, hb⟩
    have HB1 := hid hb
    clear hb HC0
    go_wp2_with fail
    go_loopw [5, 6] (fun t i wr => ∃ (j : Nat) (x : ByteArray), 1 ≤ j ∧ j ≤ ks1.length ∧ i = .int .i64 j ∧ t = .string x ∧ x.size ≤ 67108950 + j * 67108940 ∧ Hid (x = pre ++ joinS semi ((Tm.at0s (ks1.take j)).drop 1)) ∧ Hid (Below w.heap.size w wr)) (fun _ i _ => ks1.length - (intOf i).toNat)
    case atStart => exact ⟨1, _, by omega, by omega, rfl, rfl, by rw [HPRE.out]; omega, hid (by
      rw [HPRE.out]
      have h := HDL.out 1 (by omega) (by omega)
      rw [List.length_eq_zero_iff.1 h]
      exact WideShapes.bytes_inj (by rw [data_app]; simp [joinS])), HB1⟩
    case round =>
      obtain ⟨j, x, hj1, hj, rfl, rfl, hx, HX, HB⟩ := hrel
      have hxs : x.size ≤ 500000000 := by omega
      have z7 := (HB.out.cell (p := ⟨b1, o1 + 7, none⟩) XL.out).trans X7.out
      by_cases hlt : j < ks1.length
      case neg =>
        have HE := hid (show x ++ ⟨#[32, 125]⟩ = Tm.text (Tm.mk 9 u1 n1 (Ty.mk tk1 tn1 tks1) ns1 ks1) by rw [HT.out, HX.out, List.take_of_length_le (by omega)])
        have g1 : (⟨#[32, 125]⟩ : ByteArray).size = 2 := rfl
        clear hx
        go_wp2_with fail
        go_ret
        exact ret_strB HE.out HB.out
      case pos =>
        obtain ⟨t, ht⟩ : ∃ t, ks1[j]? = some t := ⟨_, List.getElem?_eq_getElem hlt⟩
        have hcse := casesOk_get HCO.out ht
        have hgk := Tm.goods_get ks1 j t HG.out ht
        have hbg := Tm.bulk_get ks1 j t ht
        have hsn := Tm.at0s_snoc ks1 j t ht
        have hsm := Tm.at_small 0 hgk (by have := HBK.out; have := HM.out; omega)
        obtain ⟨k3, u3, n3, ⟨tk3, tn3, tks3⟩, ns3, ks3⟩ := t
        have hk3 : k3 = 10 := by have h : Tm.isCase (Tm.mk k3 u3 n3 (Ty.mk tk3 tn3 tks3) ns3 ks3) = true := by rw [hcse]; simp; omega
                                 simpa [Tm.isCase] using h
        subst hk3
        obtain ⟨atks3, ctks3, ans3, cns3, aks3, cks3, q0, q1, q2, q3, q4, q5, q6, q7, hrk⟩ := HALL.out j 10 u3 n3 tk3 tn3 tks3 ns3 ks3 ht
        obtain ⟨hok3, hco3, hgs3⟩ := Tm.good_parts hgk
        have hm3 : ks3.length = 1 ∧ ns3.length ≤ 3 ∧ lowFrom ns3 ns3 0 = true := by
          rcases okTm_cases hok3 with h | h | h | h | h | h | h | h | h | h | h
          all_goals first | (exact ⟨h.2.1, h.2.2.1, h.2.2.2⟩) | (exfalso; omega)
        obtain ⟨hl3, hnl3, hlow3⟩ := hm3
        have hbk3 : Tm.bulk (Tm.mk 10 u3 n3 (Ty.mk tk3 tn3 tks3) ns3 ks3) = n3.size + Ty.bulk (Ty.mk tk3 tn3 tks3) + Sr.bulks ns3 + Tm.bulks ks3 := rfl
        obtain ⟨_, _, zn3, _, hns3, hks3⟩ := hrk.fTm
        obtain ⟨_, _, e3, _, _, hall3⟩ := hks3.eTm
        simp only [Value.slice.injEq, true_and] at e3
        obtain ⟨rfl, rfl⟩ := e3
        obtain ⟨⟨k4, u4, n4, ⟨tk4, tn4, tks4⟩, ns4, ks4⟩, rfl⟩ : ∃ a, ks3 = [a] := by
          match ks3, hl3 with
          | [a], _ => exact ⟨a, rfl⟩
        obtain ⟨bb, oo, rfl, hbbl, hall4⟩ := hall3 (by simp)
        obtain ⟨atks4, ctks4, ans4, cns4, aks4, cks4, p0_, p1_, p2_, p3_, p4_, p5_, p6_, p7_, hr4⟩ := hall4 0 k4 u4 n4 tk4 tn4 tks4 ns4 ks4 rfl
        simp only [Nat.zero_mul, Nat.add_zero] at p0_ p1_ p2_ p3_ p4_ p5_ p6_ p7_
        have hcs4 := casesOk_get hco3 (j := 0) rfl
        have hg4 := Tm.goods_get _ 0 _ hgs3 rfl
        have hbg4 := Tm.bulk_get _ 0 _ (show ([Tm.mk k4 u4 n4 (Ty.mk tk4 tn4 tks4) ns4 ks4] : List Tm)[0]? = some _ from rfl)
        have hsz4 := Tm.at_small 0 hg4 (by have := HBK.out; have := HM.out; omega)
        have hzn := szs_names ns3
        have hbz := brk_size ns3
        have hc4 := fun d os => Calls.regrown_of (print_of N IH.out k4 u4 n4 tk4 tn4 tks4 ns4 ks4 atks4 ctks4 ans4 cns4 aks4 cks4 bb oo 0 (grow (redrawn wr d) os) (by have := HBK.out; have := HN.out; omega) (by have := HBK.out; have := HM.out; omega) hg4 (by simpa using hcs4) (cell_regrown ((HB.out.cell (p := ⟨bb, oo, none⟩) hbbl).trans p0_) d os) (cell_regrown ((HB.out.cell (p := ⟨bb, oo + 1, none⟩) hbbl).trans p1_) d os) (cell_regrown ((HB.out.cell (p := ⟨bb, oo + 2, none⟩) hbbl).trans p2_) d os) (cell_regrown ((HB.out.cell (p := ⟨bb, oo + 3, none⟩) hbbl).trans p3_) d os) (cell_regrown ((HB.out.cell (p := ⟨bb, oo + 4, none⟩) hbbl).trans p4_) d os) (cell_regrown ((HB.out.cell (p := ⟨bb, oo + 5, none⟩) hbbl).trans p5_) d os) (cell_regrown ((HB.out.cell (p := ⟨bb, oo + 6, none⟩) hbbl).trans p6_) d os) (cell_regrown ((HB.out.cell (p := ⟨bb, oo + 7, none⟩) hbbl).trans p7_) d os) (hr4.below (HB.out.trans ((below_regrown _ d os).mono HB.out.size))))
        have hc5 := fun d os => Calls.regrown_of (spec_Names ns3 _ (grow (redrawn wr d) os) (by omega) (by have := HBK.out; have := HM.out; omega) (low_pos ns3 ns3 0 hlow3) ((StrIn.of_rd hns3).below (HB.out.trans ((below_regrown _ d os).mono HB.out.size))))
        have hct : Tm.at 0 (Tm.mk 10 u3 n3 (Ty.mk tk3 tn3 tks3) ns3 [Tm.mk k4 u4 n4 (Ty.mk tk4 tn4 tks4) ns4 ks4]) = ((n3 ++ brk ns3) ++ ⟨#[32, 45, 62, 32]⟩) ++ Tm.at 0 (Tm.mk k4 u4 n4 (Ty.mk tk4 tn4 tks4) ns4 ks4) := by rw [Tm.at_0]; rfl
        rw [hct] at hsn hsm
        have hn3 : n3.size ≤ 1048576 := by have := HBK.out; have := HM.out; omega
        have hbb : (brk ns3).size ≤ 4194304 := by have := HBK.out; have := HM.out; omega
        generalize Tm.at 0 (Tm.mk k4 u4 n4 (Ty.mk tk4 tn4 tks4) ns4 ks4) = y at hc4 hsz4 hsn hsm
        generalize brk ns3 = z at hc5 hsn hbb hsm
        have HC4 := hid hc4
        have HC5 := hid hc5
        have HSN := hid hsn
        have g3 : (⟨#[32, 45, 62, 32]⟩ : ByteArray).size = 4 := rfl
        have g4 : (n3 ++ z).size = n3.size + z.size := ByteArray.size_append
        have g5 : ((n3 ++ z) ++ (⟨#[32, 45, 62, 32]⟩ : ByteArray)).size = n3.size + z.size + 4 := by rw [ByteArray.size_append, g4, g3]
        have g6 : (((n3 ++ z) ++ (⟨#[32, 45, 62, 32]⟩ : ByteArray)) ++ y).size = n3.size + z.size + 4 + y.size := by rw [ByteArray.size_append, g5]
        have hcz : n3.size + z.size + 4 + y.size ≤ 67108932 := by rw [g6] at hsm; exact hsm
        have r7 := cell_regrown z7
        have r2 := cell_regrown ((HB.out.cell (p := ⟨b, o + j * 8 + 2, none⟩) hbl).trans q2)
        have r6 := cell_regrown ((HB.out.cell (p := ⟨b, o + j * 8 + 6, none⟩) hbl).trans q6)
        have rk := cell_regrown ((HB.out.cell (p := ⟨b, o + j * 8 + 7, none⟩) hbl).trans q7)
        have HLJ := hid (HDL.out j hj1 (by omega))
        have hdrop : (Tm.at0s (ks1.take (j + 1))).drop 1 = (Tm.at0s (ks1.take j)).drop 1 ++ [((n3 ++ z) ++ ⟨#[32, 45, 62, 32]⟩) ++ y] := by
          rw [hsn, List.drop_append_of_le_length]
          rw [Tm.at0s, List.length_map, Tm.texts_length, List.length_take]; omega
        have HDR := hid hdrop
        have hes0 : x.size + (2 + (n3.size + z.size + 4 + y.size)) ≤ 67108950 + (j + 1) * 67108940 := by omega
        have HES0 := hid hes0
        clear hdrop hct hsn hsm ht hcse hgk hbg hok3 hco3 hgs3 hl3 hnl3 hlow3 hbk3 hns3 hks3 hall3 hall4 hcs4 hg4 hbg4 hc4 hc5 hzn hbz hrk hr4 q0 q1 q2 q3 q4 q5 q6 q7 p0_ p1_ p2_ p3_ p4_ p5_ p6_ p7_ hx hes0 zn3
        by_cases hj1' : j = 1
        case pos =>
          have HE := hid (show x ++ (((n3 ++ z) ++ ⟨#[32, 45, 62, 32]⟩) ++ y) = pre ++ joinS semi ((Tm.at0s (ks1.take (j + 1))).drop 1) by
            rw [HDR.out, HX.out, List.length_eq_zero_iff.1 (show ((Tm.at0s (ks1.take j)).drop 1).length = 0 by rw [HLJ.out, hj1']), joinS_one]
            exact WideShapes.bytes_inj (by simp only [data_app]; simp [joinS]))
          have gj : decide (1 < j) = false := decide_eq_false (by omega)
          have gj2 : decide ((1 : Int) < (j : Int)) = false := decide_eq_false (by omega)
          have HES := hid (show (x ++ (((n3 ++ z) ++ (⟨#[32, 45, 62, 32]⟩ : ByteArray)) ++ y)).size ≤ 67108950 + (j + 1) * 67108940 by rw [ByteArray.size_append, g6]; have := HES0.out; omega)
          clear hj1'
          go_wp2_with fail
          refine wp_region_quiet_below (by kernel_rfl) (by kernel_rfl) ?_
          repeat (go_big_quiet_step (first | (with_reducible exact HC4.out _ _) | (with_reducible exact HC5.out _ _)))
          refine wpQuiet_nil ?_
          intro _ hw'
          obtain ⟨⟨dq, osq⟩, hw''⟩ := hw'
          subst hw''
          have HB2 := hid (HB.out.trans ((below_regrown wr dq osq).mono HB.out.size))
          clear z7 r7 r2 r6 rk HC4 HC5
          go_wp2_with fail
          go_roundw
          case rel => exact ⟨j + 1, _, by omega, by omega, by go_num, rfl, HES.out, HE, HB2⟩
          case measure => first | (simp [intOf]; done) | (simp [intOf]; omega)
        case neg =>
          have hne : (Tm.at0s (ks1.take j)).drop 1 ≠ [] := by intro h; have h2 := HLJ.out; rw [h] at h2; simp at h2; omega
          have HE := hid (show (x ++ ⟨#[59, 32]⟩) ++ (((n3 ++ z) ++ ⟨#[32, 45, 62, 32]⟩) ++ y) = pre ++ joinS semi ((Tm.at0s (ks1.take (j + 1))).drop 1) by
            rw [HDR.out, joinS_snoc _ _ hne, HX.out]
            exact WideShapes.bytes_inj (by simp only [data_app, List.append_assoc]))
          have gj : decide (1 < j) = true := decide_eq_true (by omega)
          have gj2 : decide ((1 : Int) < (j : Int)) = true := decide_eq_true (by omega)
          have g8 : (⟨#[59, 32]⟩ : ByteArray).size = 2 := rfl
          have g9 : (x ++ (⟨#[59, 32]⟩ : ByteArray)).size = x.size + 2 := by rw [ByteArray.size_append, g8]
          have HES := hid (show ((x ++ (⟨#[59, 32]⟩ : ByteArray)) ++ (((n3 ++ z) ++ (⟨#[32, 45, 62, 32]⟩ : ByteArray)) ++ y)).size ≤ 67108950 + (j + 1) * 67108940 by rw [ByteArray.size_append, g9, g6]; have := HES0.out; omega)
          clear hj1' hne
          go_wp2_with fail
          refine wp_region_quiet_below (by kernel_rfl) (by kernel_rfl) ?_
          repeat (go_big_quiet_step (first | (with_reducible exact HC4.out _ _) | (with_reducible exact HC5.out _ _)))
          refine wpQuiet_nil ?_
          intro _ hw'
          obtain ⟨⟨dq, osq⟩, hw''⟩ := hw'
          subst hw''
          have HB2 := hid (HB.out.trans ((below_regrown wr dq osq).mono HB.out.size))
          clear z7 r7 r2 r6 rk HC4 HC5
          go_wp2_with fail
          go_roundw
          case rel => exact ⟨j + 1, _, by omega, by omega, by go_num, rfl, HES.out, HE, HB2⟩
          case measure => first | (simp [intOf]; done) | (simp [intOf]; omega)
  · exact absurd hcs (by simp [Tm.isCase])
  · obtain ⟨⟨k2, u2, n2, ⟨tk2, tn2, tks2⟩, ns2, ks2⟩, ⟨k3, u3, n3, ⟨tk3, tn3, tks3⟩, ns3, ks3⟩, ⟨k4, u4, n4, ⟨tk4, tn4, tks4⟩, ns4, ks4⟩, rfl⟩ : ∃ a b c, ks1 = [a, b, c] := by
      match ks1, hn with
      | [a, b, c], _ => exact ⟨a, b, c, rfl⟩
    obtain ⟨b, o, rfl, hbl, hall⟩ := h4 (by simp)
    obtain ⟨atks2, ctks2, ans2, cns2, aks2, cks2, q20, q21, q22, q23, q24, q25, q26, q27, hr2⟩ := hall 0 k2 u2 n2 tk2 tn2 tks2 ns2 ks2 rfl
    have hcs2 := casesOk_get hco (j := 0) rfl
    have hg2 := Tm.goods_get _ 0 _ hgs rfl
    have hbg2 := Tm.bulk_get _ 0 _ (show ([Tm.mk k2 u2 n2 (Ty.mk tk2 tn2 tks2) ns2 ks2, Tm.mk k3 u3 n3 (Ty.mk tk3 tn3 tks3) ns3 ks3, Tm.mk k4 u4 n4 (Ty.mk tk4 tn4 tks4) ns4 ks4] : List Tm)[0]? = some _ from rfl)
    obtain ⟨atks3, ctks3, ans3, cns3, aks3, cks3, q30, q31, q32, q33, q34, q35, q36, q37, hr3⟩ := hall 1 k3 u3 n3 tk3 tn3 tks3 ns3 ks3 rfl
    have hcs3 := casesOk_get hco (j := 1) rfl
    have hg3 := Tm.goods_get _ 1 _ hgs rfl
    have hbg3 := Tm.bulk_get _ 1 _ (show ([Tm.mk k2 u2 n2 (Ty.mk tk2 tn2 tks2) ns2 ks2, Tm.mk k3 u3 n3 (Ty.mk tk3 tn3 tks3) ns3 ks3, Tm.mk k4 u4 n4 (Ty.mk tk4 tn4 tks4) ns4 ks4] : List Tm)[1]? = some _ from rfl)
    obtain ⟨atks4, ctks4, ans4, cns4, aks4, cks4, q40, q41, q42, q43, q44, q45, q46, q47, hr4⟩ := hall 2 k4 u4 n4 tk4 tn4 tks4 ns4 ks4 rfl
    have hcs4 := casesOk_get hco (j := 2) rfl
    have hg4 := Tm.goods_get _ 2 _ hgs rfl
    have hbg4 := Tm.bulk_get _ 2 _ (show ([Tm.mk k2 u2 n2 (Ty.mk tk2 tn2 tks2) ns2 ks2, Tm.mk k3 u3 n3 (Ty.mk tk3 tn3 tks3) ns3 ks3, Tm.mk k4 u4 n4 (Ty.mk tk4 tn4 tks4) ns4 ks4] : List Tm)[2]? = some _ from rfl)
    clear hall h4
    simp only [Nat.zero_mul, Nat.add_zero] at q20 q21 q22 q23 q24 q25 q26 q27
    have hz2 := Tm.text_small hg2 (by omega)
    simp only [Nat.one_mul] at q30 q31 q32 q33 q34 q35 q36 q37
    have hz3 := Tm.text_small hg3 (by omega)
    simp only [Nat.reduceMul] at q40 q41 q42 q43 q44 q45 q46 q47
    have hz4 := Tm.text_small hg4 (by omega)
    have hc0 := fun d os => Calls.regrown_of (print_of N ih k2 u2 n2 tk2 tn2 tks2 ns2 ks2 atks2 ctks2 ans2 cns2 aks2 cks2 b o (0) (grow (redrawn w d) os) (by omega) (by omega) hg2 (by first | exact hcs2 | simpa using hcs2) (cell_regrown q20 d os) (cell_regrown q21 d os) (cell_regrown q22 d os) (cell_regrown q23 d os) (cell_regrown q24 d os) (cell_regrown q25 d os) (cell_regrown q26 d os) (cell_regrown q27 d os) (hr2.below (below_regrown _ d os)))
    have hc1 := fun d os => Calls.regrown_of (print_of N ih k3 u3 n3 tk3 tn3 tks3 ns3 ks3 atks3 ctks3 ans3 cns3 aks3 cks3 b (o + 8) (0) (grow (redrawn w d) os) (by omega) (by omega) hg3 (by first | exact hcs3 | simpa using hcs3) (cell_regrown q30 d os) (cell_regrown q31 d os) (cell_regrown q32 d os) (cell_regrown q33 d os) (cell_regrown q34 d os) (cell_regrown q35 d os) (cell_regrown q36 d os) (cell_regrown q37 d os) (hr3.below (below_regrown _ d os)))
    have hc2 := fun d os => Calls.regrown_of (print_of N ih k4 u4 n4 tk4 tn4 tks4 ns4 ks4 atks4 ctks4 ans4 cns4 aks4 cks4 b (o + 16) (0) (grow (redrawn w d) os) (by omega) (by omega) hg4 (by first | exact hcs4 | simpa using hcs4) (cell_regrown q40 d os) (cell_regrown q41 d os) (cell_regrown q42 d os) (cell_regrown q43 d os) (cell_regrown q44 d os) (cell_regrown q45 d os) (cell_regrown q46 d os) (cell_regrown q47 d os) (hr4.below (below_regrown _ d os)))
    have hp0 := Tm.at_small (0) hg2 (by omega)
    have hp1 := Tm.at_small (0) hg3 (by omega)
    have hp2 := Tm.at_small (0) hg4 (by omega)
    have HT := hid (show Tm.text (Tm.mk 11 u1 n1 (Ty.mk tk1 tn1 tks1) ns1 [Tm.mk k2 u2 n2 (Ty.mk tk2 tn2 tks2) ns2 ks2, Tm.mk k3 u3 n3 (Ty.mk tk3 tn3 tks3) ns3 ks3, Tm.mk k4 u4 n4 (Ty.mk tk4 tn4 tks4) ns4 ks4]) = ((((((⟨#[105, 102, 32]⟩ : ByteArray) ++ Tm.at (0) (Tm.mk k2 u2 n2 (Ty.mk tk2 tn2 tks2) ns2 ks2)) ++ (⟨#[32, 116, 104, 101, 110, 32]⟩ : ByteArray)) ++ Tm.at (0) (Tm.mk k3 u3 n3 (Ty.mk tk3 tn3 tks3) ns3 ks3)) ++ (⟨#[32, 101, 108, 115, 101, 32]⟩ : ByteArray)) ++ Tm.at (0) (Tm.mk k4 u4 n4 (Ty.mk tk4 tn4 tks4) ns4 ks4)) from rfl)
    generalize Tm.at (0) (Tm.mk k2 u2 n2 (Ty.mk tk2 tn2 tks2) ns2 ks2) = p0 at hc0 hp0 HT
    generalize Tm.at (0) (Tm.mk k3 u3 n3 (Ty.mk tk3 tn3 tks3) ns3 ks3) = p1 at hc1 hp1 HT
    generalize Tm.at (0) (Tm.mk k4 u4 n4 (Ty.mk tk4 tn4 tks4) ns4 ks4) = p2 at hc2 hp2 HT
    have HC0 := hid hc0
    have HC1 := hid hc1
    have HC2 := hid hc2
    replace x7 : w.cell? ⟨b1, o1 + 7, none⟩ = some (.slice (some ⟨b, o, none⟩) 3 cks1) := x7
    have d7 := cell_regrown x7
    have le1 : (⟨#[105, 102, 32]⟩ : ByteArray).size = 3 := rfl
    have le2 : (⟨#[32, 116, 104, 101, 110, 32]⟩ : ByteArray).size = 6 := rfl
    have le3 : (⟨#[32, 101, 108, 115, 101, 32]⟩ : ByteArray).size = 6 := rfl
    have ce1 : ((⟨#[105, 102, 32]⟩ : ByteArray) ++ p0).size = 3 + p0.size := by rw [ByteArray.size_append, le1]
    have ce2 : (((⟨#[105, 102, 32]⟩ : ByteArray) ++ p0) ++ (⟨#[32, 116, 104, 101, 110, 32]⟩ : ByteArray)).size = 3 + p0.size + 6 := by rw [ByteArray.size_append, ce1, le2]
    have ce3 : ((((⟨#[105, 102, 32]⟩ : ByteArray) ++ p0) ++ (⟨#[32, 116, 104, 101, 110, 32]⟩ : ByteArray)) ++ p1).size = 3 + p0.size + 6 + p1.size := by rw [ByteArray.size_append, ce2]
    have ce4 : (((((⟨#[105, 102, 32]⟩ : ByteArray) ++ p0) ++ (⟨#[32, 116, 104, 101, 110, 32]⟩ : ByteArray)) ++ p1) ++ (⟨#[32, 101, 108, 115, 101, 32]⟩ : ByteArray)).size = 3 + p0.size + 6 + p1.size + 6 := by rw [ByteArray.size_append, ce3, le3]
    clear hc0 hc1 hc2 q20 q21 q22 q23 q24 q25 q26 q27 q30 q31 q32 q33 q34 q35 q36 q37 q40 q41 q42 q43 q44 q45 q46 q47 hr2 hcs2 hg2 hbg2 hz2 hr3 hcs3 hg3 hbg3 hz3 hr4 hcs4 hg4 hbg4 hz4
    clear hok hgs hco hns hN hM hbk ih hlb hlu hrt hg hcs zn hn lou hiu x1 x2 x3 x4 x5 x6 x7
    go_enter Tryz.func47, Tryz.ntmps47
    go_wp2_with fail
    refine wp_region_quiet_below (by kernel_rfl) (by kernel_rfl) ?_
    repeat (go_big_quiet_step (first | (with_reducible exact HC0.out _ _) | (with_reducible exact HC1.out _ _) | (with_reducible exact HC2.out _ _)))
    refine wpQuiet_nil ?_
    intro _ hw'
    obtain ⟨⟨dq, osq⟩, hw''⟩ := hw'
    subst hw''
    have HB1 := hid (below_regrown w dq osq)
    clear HC0 HC1 HC2 d7
    go_wp2_with fail
    go_ret
    exact ret_strB HT.out.symm HB1.out
end Go.Proofs.YtikhofcjkcbpbaaGreatDoor
/- was: PrA -/
namespace Go.Proofs.YtikhofcjkcbpbaaGreatDoor
open Go.ChangeShapes Go.WideShapes Go.ChangeAt Go.RowKit Go.BigFrame
open Go.Sort (grow)
set_option linter.unusedVariables false

def ImPrW (N : Nat) : Prop := ∀ (k1 : Int) (u1 : Int) (n1 : ByteArray) (tk1 : Int) (tn1 : ByteArray) (tks1 : List Ty) (ns1 : List ByteArray) (ks1 : List Tm) (atks1 : Option Addr) (ctks1 : Nat) (ans1 : Option Addr) (cns1 : Nat) (aks1 : Option Addr) (cks1 : Nat) (l : Int) (w : World), Pow w → Tm.bulk (Tm.mk k1 u1 n1 (Ty.mk tk1 tn1 tks1) ns1 ks1) < N → Tm.bulk (Tm.mk k1 u1 n1 (Ty.mk tk1 tn1 tks1) ns1 ks1) ≤ 1048576 → Tm.good (Tm.mk k1 u1 n1 (Ty.mk tk1 tn1 tks1) ns1 ks1) = true → RdS w (Tm.d (Tm.mk k1 u1 n1 (Ty.mk tk1 tn1 tks1) ns1 ks1)) [.int .i64 k1, .int .i64 u1, .string n1, .int .i64 tk1, .string tn1, .slice atks1 tks1.length ctks1, .slice ans1 ns1.length cns1, .slice aks1 ks1.length cks1] →
  Calls Tryz.prog 25 #[.agg #[.int .i64 k1, .int .i64 u1, .string n1, .int .i64 tk1, .string tn1, .slice atks1 tks1.length ctks1, .slice ans1 ns1.length cns1, .slice aks1 ks1.length cks1], .int .i64 l] w fun e w' => e = .returned (.string (Tm.at l (Tm.mk k1 u1 n1 (Ty.mk tk1 tn1 tks1) ns1 ks1))) ∧ Below w.heap.size w w'
/-- A list of terms lies in a slice. -/
def TmsIn (w : World) (ks : List Tm) (v : Value) : Prop := ∃ (a : Option Addr) (c : Nat), v = .slice a ks.length c ∧ ks.length ≤ c ∧ c ≤ 9223372036854775807 ∧ (0 < ks.length → ∃ b o, a = some ⟨b, o, none⟩ ∧ b < w.heap.size ∧ ∀ (i : Nat) (k : Int) (u : Int) (n : ByteArray) (tk : Int) (tn : ByteArray) (tks : List Ty) (ns : List ByteArray) (kk : List Tm), ks[i]? = some (Tm.mk k u n (Ty.mk tk tn tks) ns kk) → ∃ (atks : Option Addr) (ctks : Nat) (ans : Option Addr) (cns : Nat) (akk : Option Addr) (ckk : Nat),
  w.cell? ⟨b, o + i * 8, none⟩ = some (.int .i64 k) ∧ w.cell? ⟨b, o + i * 8 + 1, none⟩ = some (.int .i64 u) ∧ w.cell? ⟨b, o + i * 8 + 2, none⟩ = some (.string n) ∧ w.cell? ⟨b, o + i * 8 + 3, none⟩ = some (.int .i64 tk) ∧ w.cell? ⟨b, o + i * 8 + 4, none⟩ = some (.string tn) ∧ w.cell? ⟨b, o + i * 8 + 5, none⟩ = some (.slice atks tks.length ctks) ∧ w.cell? ⟨b, o + i * 8 + 6, none⟩ = some (.slice ans ns.length cns) ∧ w.cell? ⟨b, o + i * 8 + 7, none⟩ = some (.slice akk kk.length ckk) ∧ RdS w (Tm.d (Tm.mk k u n (Ty.mk tk tn tks) ns kk)) [.int .i64 k, .int .i64 u, .string n, .int .i64 tk, .string tn, .slice atks tks.length ctks, .slice ans ns.length cns, .slice akk kk.length ckk])
theorem TmsIn.of_rd {w : World} {ks : List Tm} {v : Value} (h : RdL w (Tm.ds ks) v) : TmsIn w ks v := h.eTm
theorem TmsIn.drop {w : World} {t : Tm} {ks : List Tm} {b o c : Nat} (h : TmsIn w (t :: ks) (.slice (some ⟨b, o, none⟩) (ks.length + 1) c)) : TmsIn w ks (.slice (some ⟨b, o + 8, none⟩) ks.length (c - 1)) := by
  obtain ⟨a', c', e, h2, h3, h4⟩ := h
  simp only [Value.slice.injEq, List.length_cons] at e h2
  obtain ⟨rfl, _, rfl⟩ := e
  refine ⟨_, c - 1, rfl, by omega, by omega, fun hp => ?_⟩
  obtain ⟨b', o', e, hb, hall⟩ := h4 (by simp)
  simp only [Option.some.injEq, Addr.mk.injEq, and_true] at e
  obtain ⟨rfl, rfl⟩ := e
  refine ⟨b, o + 8, rfl, hb, fun i k u n tk tn tks ns kk hi => ?_⟩
  obtain ⟨a1, c1, a2, c2, a3, c3, q0, q1, q2, q3, q4, q5, q6, q7, hr⟩ := hall (i + 1) k u n tk tn tks ns kk (by simpa using hi)
  rw [show o + (i + 1) * 8 = o + 8 + i * 8 by omega] at q0 q1 q2 q3 q4 q5 q6 q7
  exact ⟨a1, c1, a2, c2, a3, c3, q0, q1, q2, q3, q4, q5, q6, q7, hr⟩
theorem TmsIn.below {w w' : World} {ks : List Tm} {v : Value} (h : TmsIn w ks v) (hb : Below w.heap.size w w') : TmsIn w' ks v := by
  obtain ⟨a, c, e, h2, h3, h4⟩ := h
  refine ⟨a, c, e, h2, h3, fun hp => ?_⟩
  obtain ⟨b, o, e, hbl, hall⟩ := h4 hp
  refine ⟨b, o, e, Nat.lt_of_lt_of_le hbl hb.size, fun i k u n tk tn tks ns kk hi => ?_⟩
  obtain ⟨a1, c1, a2, c2, a3, c3, q0, q1, q2, q3, q4, q5, q6, q7, hr⟩ := hall i k u n tk tn tks ns kk hi
  exact ⟨a1, c1, a2, c2, a3, c3, (hb.cell (p := ⟨b, _, none⟩) hbl).trans q0, (hb.cell (p := ⟨b, _, none⟩) hbl).trans q1, (hb.cell (p := ⟨b, _, none⟩) hbl).trans q2, (hb.cell (p := ⟨b, _, none⟩) hbl).trans q3, (hb.cell (p := ⟨b, _, none⟩) hbl).trans q4, (hb.cell (p := ⟨b, _, none⟩) hbl).trans q5, (hb.cell (p := ⟨b, _, none⟩) hbl).trans q6, (hb.cell (p := ⟨b, _, none⟩) hbl).trans q7, hr.below hb⟩
set_option maxRecDepth 100000 in
theorem impl_kid (N : Nat) (ih : ImPrW N) (B : Nat) (ks : List Tm) (v : Value) (i : Nat) (t : Tm) (l : Int) (w : World) (hp : Pow w) (hN : Tm.bulks ks ≤ N) (hM : Tm.bulks ks ≤ 1048576) (hg : Tm.goods ks = true) (hb7 : w.cell? ⟨B, 7, none⟩ = some v) (hk : TmsIn w ks v) (ht : ks[i]? = some t) :
    Calls Tryz.prog 51 #[.int .i64 (i : Int), .int .i64 l, .pointer (some ⟨B, 0, none⟩)] w fun e w' => e = .returned (.string (Tm.at l t)) ∧ Below w.heap.size w w' := by
  obtain ⟨a, c, rfl, hc, hcm, hall⟩ := hk
  have hi := (List.getElem?_eq_some_iff.1 ht).1
  have hbl := Tm.bulks_length ks
  obtain ⟨b, o, rfl, hbb, hall⟩ := hall (by omega)
  have hbg := Tm.bulk_get ks i t ht
  have hgk := Tm.goods_get ks i t hg ht
  obtain ⟨k3, u3, n3, ⟨tk3, tn3, tks3⟩, ns3, ks3⟩ := t
  obtain ⟨atks3, ctks3, ans3, cns3, aks3, cks3, q0, q1, q2, q3, q4, q5, q6, q7, hrk⟩ := hall i k3 u3 n3 tk3 tn3 tks3 ns3 ks3 ht
  have HC := hid (ih k3 u3 n3 tk3 tn3 tks3 ns3 ks3 atks3 ctks3 ans3 cns3 aks3 cks3 l w hp (by omega) (by omega) hgk hrk)
  generalize Tm.at l (Tm.mk k3 u3 n3 (Ty.mk tk3 tn3 tks3) ns3 ks3) = y at HC ⊢
  clear hall hrk hgk hg ih hp ht hbg
  go_enter Tryz.func51, Tryz.ntmps51
  go_wp2_with fail
  refine HC.out.mono ?_
  rintro e w1 ⟨rfl, hb⟩
  have HB := hid hb
  clear hb
  go_wp2_with fail
  go_ret
  exact ⟨rfl, HB.out⟩
def GivesStr (w : World) (xs : List ByteArray) (e : Ending) (w' : World) : Prop := ∃ v, e = .returned v ∧ StrIn w' xs v ∧ Below w.heap.size w w'
set_option maxRecDepth 100000 in
set_option maxHeartbeats 1000000 in
theorem impl_all (N : Nat) (ih : ImPrW N) (ks : List Tm) (v : Value) (w : World) (hp : Pow w) (hl : ks.length ≤ 1048576) (hN : Tm.bulks ks ≤ N) (hM : Tm.bulks ks ≤ 1048576) (hg : Tm.goods ks = true) (hk : TmsIn w ks v) :
    Calls Tryz.prog 54 #[v] w (GivesStr w (Tm.at0s ks)) := by
  obtain ⟨a, c, rfl, hc, hcm, hall⟩ := hk
  have H4 := hid hall
  have IH := hid ih
  have HG := hid hg
  have HNN := hid hN
  have HMM := hid hM
  have HP := hid hp
  clear hall ih hg hN hM hp
  go_enter Tryz.func54, Tryz.ntmps54
  go_wp2_with fail
  go_loopw [3, 8] (fun t i wr => ∃ (j : Nat) (v0 : Value), j ≤ ks.length ∧ i = .int .i64 j ∧ v0 = t ∧ Hid (OwnStr wr w.heap.size v0 (Tm.at0s (ks.take j))) ∧ Hid (Below w.heap.size w wr)) (fun _ i _ => ks.length - (intOf i).toNat)
  case atStart => exact ⟨0, .slice none 0 0, by omega, rfl, rfl, World.ownsRow_nil _ _ _ _, Below.refl _ _⟩
  case round =>
    obtain ⟨j, v0, hj, rfl, rfl, HO, HB⟩ := hrel
    by_cases hlt : j < ks.length
    case neg =>
      have HE := hid (show GivesStr w (Tm.at0s ks) (.returned v0) wr from ⟨v0, rfl, StrIn.of_own (B := w.heap.size) (by have h := HO.out; rw [List.take_of_length_le (by omega)] at h; exact h), HB.out⟩)
      go_wp2_with fail
      go_ret
      exact HE.out
    case pos =>
      obtain ⟨b, o, rfl, hbl, hall⟩ := H4.out (by omega)
      obtain ⟨t, ht⟩ : ∃ t, ks[j]? = some t := ⟨_, List.getElem?_eq_getElem hlt⟩
      have hbg := Tm.bulk_get ks j t ht
      have hgk := Tm.goods_get ks j t HG.out ht
      have hsn := Tm.at0s_snoc ks j t ht
      obtain ⟨k3, u3, n3, ⟨tk3, tn3, tks3⟩, ns3, ks3⟩ := t
      obtain ⟨atks3, ctks3, ans3, cns3, aks3, cks3, q0, q1, q2, q3, q4, q5, q6, q7, hrk⟩ := hall j k3 u3 n3 tk3 tn3 tks3 ns3 ks3 ht
      have d0 := (HB.out.cell (p := ⟨b, o + j * 8, none⟩) hbl).trans q0
      have d1 := (HB.out.cell (p := ⟨b, o + j * 8 + 1, none⟩) hbl).trans q1
      have d2 := (HB.out.cell (p := ⟨b, o + j * 8 + 2, none⟩) hbl).trans q2
      have d3 := (HB.out.cell (p := ⟨b, o + j * 8 + 3, none⟩) hbl).trans q3
      have d4 := (HB.out.cell (p := ⟨b, o + j * 8 + 4, none⟩) hbl).trans q4
      have d5 := (HB.out.cell (p := ⟨b, o + j * 8 + 5, none⟩) hbl).trans q5
      have d6 := (HB.out.cell (p := ⟨b, o + j * 8 + 6, none⟩) hbl).trans q6
      have d7 := (HB.out.cell (p := ⟨b, o + j * 8 + 7, none⟩) hbl).trans q7
      have hbk1 : Below wr.heap.size wr (wr.alloc (.cells #[.int .i64 k3, .int .i64 u3, .string n3, .int .i64 tk3, .string tn3, .slice atks3 tks3.length ctks3, .slice ans3 ns3.length cns3, .slice aks3 ks3.length cks3] 36)) := (Below.refl _ _).alloc (Nat.le_refl _) _
      have HBK1 := hid (HB.out.trans (hbk1.mono HB.out.size))
      have HO1 := hid (ownsRow.below HO.out hbk1)
      have HC := hid (IH.out k3 u3 n3 tk3 tn3 tks3 ns3 ks3 atks3 ctks3 ans3 cns3 aks3 cks3 0 (wr.alloc (.cells #[.int .i64 k3, .int .i64 u3, .string n3, .int .i64 tk3, .string tn3, .slice atks3 tks3.length ctks3, .slice ans3 ns3.length cns3, .slice aks3 ks3.length cks3] 36)) (HP.out.below HBK1.out) (by have := HNN.out; omega) (by have := HMM.out; omega) hgk (hrk.below HBK1.out))
      generalize Tm.at 0 (Tm.mk k3 u3 n3 (Ty.mk tk3 tn3 tks3) ns3 ks3) = y at HC hsn
      have HSN := hid hsn
      have g0 := heap_cell (heap_alloc_new wr (.cells #[.int .i64 k3, .int .i64 u3, .string n3, .int .i64 tk3, .string tn3, .slice atks3 tks3.length ctks3, .slice ans3 ns3.length cns3, .slice aks3 ks3.length cks3] 36)) (j := 0) rfl
      have g1 := heap_cell (heap_alloc_new wr (.cells #[.int .i64 k3, .int .i64 u3, .string n3, .int .i64 tk3, .string tn3, .slice atks3 tks3.length ctks3, .slice ans3 ns3.length cns3, .slice aks3 ks3.length cks3] 36)) (j := 1) rfl
      have g2 := heap_cell (heap_alloc_new wr (.cells #[.int .i64 k3, .int .i64 u3, .string n3, .int .i64 tk3, .string tn3, .slice atks3 tks3.length ctks3, .slice ans3 ns3.length cns3, .slice aks3 ks3.length cks3] 36)) (j := 2) rfl
      have g3 := heap_cell (heap_alloc_new wr (.cells #[.int .i64 k3, .int .i64 u3, .string n3, .int .i64 tk3, .string tn3, .slice atks3 tks3.length ctks3, .slice ans3 ns3.length cns3, .slice aks3 ks3.length cks3] 36)) (j := 3) rfl
      have g4 := heap_cell (heap_alloc_new wr (.cells #[.int .i64 k3, .int .i64 u3, .string n3, .int .i64 tk3, .string tn3, .slice atks3 tks3.length ctks3, .slice ans3 ns3.length cns3, .slice aks3 ks3.length cks3] 36)) (j := 4) rfl
      have g5 := heap_cell (heap_alloc_new wr (.cells #[.int .i64 k3, .int .i64 u3, .string n3, .int .i64 tk3, .string tn3, .slice atks3 tks3.length ctks3, .slice ans3 ns3.length cns3, .slice aks3 ks3.length cks3] 36)) (j := 5) rfl
      have g6 := heap_cell (heap_alloc_new wr (.cells #[.int .i64 k3, .int .i64 u3, .string n3, .int .i64 tk3, .string tn3, .slice atks3 tks3.length ctks3, .slice ans3 ns3.length cns3, .slice aks3 ks3.length cks3] 36)) (j := 6) rfl
      have g7 := heap_cell (heap_alloc_new wr (.cells #[.int .i64 k3, .int .i64 u3, .string n3, .int .i64 tk3, .string tn3, .slice atks3 tks3.length ctks3, .slice ans3 ns3.length cns3, .slice aks3 ks3.length cks3] 36)) (j := 7) rfl
      clear hall hrk hgk hbg hsn ht H4 q0 q1 q2 q3 q4 q5 q6 q7 hbk1
      go_wp2_with fail
      refine HC.out.mono ?_
      rintro e w1 ⟨rfl, hb⟩
      have HOA := hid (ownsRow.below HO1.out hb)
      have HBA := hid (HBK1.out.trans (hb.mono HBK1.out.size))
      clear hb d0 d1 d2 d3 d4 d5 d6 d7 g0 g1 g2 g3 g4 g5 g6 g7
      go_wp2_with (at_builtin; refine wpList_append_s1 rfl _ _ rfl w.heap.size _ (Tm.at0s (ks.take j)) y ⟨w1.heap.size, 0, none⟩ rfl rfl (HOA.out.alloc _) (one_new _ _ _) ?c1 ?c2 ?_)
      case c1 => rw [Tm.at0s, List.length_map, Tm.texts_length, List.length_take]; omega
      case c2 => have := HBA.out.size; simp; omega
      intro v2 w2 ho2 hg2
      have HO2 := hid (show OwnStr w2 w.heap.size v2 (Tm.at0s (ks.take j) ++ [y]) by simpa [OwnStr] using ho2)
      have HB2 := hid (OwnStr.next (HBA.out.alloc HBA.out.size _) (by have := HBA.out.size; simp; omega) (HOA.out.alloc _) hg2)
      clear ho2 hg2
      go_wp2_with fail
      go_roundw
      case rel => exact ⟨j + 1, v2, by omega, by go_num, rfl, by rw [HSN.out]; exact HO2.out, HB2⟩
      case measure => first | (simp [intOf]; done) | (simp [intOf]; omega)
end Go.Proofs.YtikhofcjkcbpbaaGreatDoor
/- was: PrIA -/
namespace Go.Proofs.YtikhofcjkcbpbaaGreatDoor
open Go.ChangeShapes Go.WideShapes Go.ChangeAt Go.RowKit Go.BigFrame
open Go.Sort (grow)
set_option linter.unusedVariables false

set_option maxRecDepth 100000 in
set_option maxHeartbeats 8000000 in
theorem impl_body1 (N : Nat) (ih : ImPrW N) (k1 : Int) (u1 : Int) (n1 : ByteArray) (tk1 : Int) (tn1 : ByteArray) (tks1 : List Ty) (ns1 : List ByteArray) (ks1 : List Tm) (atks1 : Option Addr) (ctks1 : Nat) (ans1 : Option Addr) (cns1 : Nat) (aks1 : Option Addr) (cks1 : Nat) (l : Int) (w : World) (hcase : k1 = 1 ∧ ks1.length = 0) (hpw : Pow w) (hN : Tm.bulk (Tm.mk k1 u1 n1 (Ty.mk tk1 tn1 tks1) ns1 ks1) < N + 1) (hM : Tm.bulk (Tm.mk k1 u1 n1 (Ty.mk tk1 tn1 tks1) ns1 ks1) ≤ 1048576) (hg : Tm.good (Tm.mk k1 u1 n1 (Ty.mk tk1 tn1 tks1) ns1 ks1) = true) (hlv : ¬ tmLev k1 u1 < l) (hr : RdS w (Tm.d (Tm.mk k1 u1 n1 (Ty.mk tk1 tn1 tks1) ns1 ks1)) [.int .i64 k1, .int .i64 u1, .string n1, .int .i64 tk1, .string tn1, .slice atks1 tks1.length ctks1, .slice ans1 ns1.length cns1, .slice aks1 ks1.length cks1]) :
    Calls Tryz.prog 25 #[.agg #[.int .i64 k1, .int .i64 u1, .string n1, .int .i64 tk1, .string tn1, .slice atks1 tks1.length ctks1, .slice ans1 ns1.length cns1, .slice aks1 ks1.length cks1], .int .i64 l] w fun e w' => e = .returned (.string (Tm.text (Tm.mk k1 u1 n1 (Ty.mk tk1 tn1 tks1) ns1 ks1))) ∧ Below w.heap.size w w' := by
  have hbk : Tm.bulk (Tm.mk k1 u1 n1 (Ty.mk tk1 tn1 tks1) ns1 ks1) = n1.size + Ty.bulk (Ty.mk tk1 tn1 tks1) + Sr.bulks ns1 + Tm.bulks ks1 := rfl
  obtain ⟨hok, hco, hgs⟩ := Tm.good_parts hg
  have hlu := okTm_lint hok
  have hrt := RdS.subTm_t hr
  obtain ⟨_, ⟨lou, hiu⟩, zn, _, hns, hks⟩ := hr.fTm
  have hlb := Tm.bulks_length ks1
  have hn1 : n1.size ≤ 1048576 := by omega
  have HX0 := hid ((Boxes.nil w).alloc #[.int .i64 k1, .int .i64 u1, .string n1, .int .i64 tk1, .string tn1, .slice atks1 tks1.length ctks1, .slice ans1 ns1.length cns1, .slice aks1 ks1.length cks1] 36 (0, 0))
  have hB := (Below.refl w.heap.size w).alloc (Nat.le_refl _) (.cells #[.int .i64 k1, .int .i64 u1, .string n1, .int .i64 tk1, .string tn1, .slice atks1 tks1.length ctks1, .slice ans1 ns1.length cns1, .slice aks1 ks1.length cks1] 36)
  have HB0 := hid hB
  have HLV := hid (fun W => impl_Level k1 u1 n1 tk1 tn1 tks1 ns1 ks1 atks1 ctks1 ans1 cns1 aks1 cks1 W)
  have HCS := hid hcase
  clear hcase
  have HOK := hid hok
  have HGS := hid hgs
  have HTI := hid (TmsIn.of_rd hks)
  have HNS := hid (StrIn.of_rd hns)
  have HRT := hid hrt
  have HPW := hid hpw
  have HIH := hid ih
  have hNk : Tm.bulks ks1 ≤ N := by omega
  have hMk : Tm.bulks ks1 ≤ 1048576 := by omega
  have HKD := hid (fun (i : Nat) (z : Int) (hz : z = (i : Int)) (t : Tm) (l : Int) (W : World) (hb : Below w.heap.size w W) (h7 : W.cell? ⟨w.heap.size, 7, none⟩ = some (.slice aks1 ks1.length cks1)) (ht : ks1[i]? = some t) => (by rw [hz]; exact impl_kid N ih w.heap.size ks1 _ i t l W (hpw.below hb) hNk hMk hgs h7 ((TmsIn.of_rd hks).below hb) ht : Calls Tryz.prog 51 #[.int .i64 z, .int .i64 l, .pointer (some ⟨w.heap.size, 0, none⟩)] W fun e w' => e = .returned (.string (Tm.at l t)) ∧ Below W.heap.size W w'))
  have HSM := hid (fun (i : Nat) (t : Tm) (l : Int) (ht : ks1[i]? = some t) => Tm.at_small l (Tm.goods_get ks1 i t hgs ht) (by have := Tm.bulk_get ks1 i t ht; omega))
  have HBK := hid hbk
  have HM := hid hM
  obtain ⟨L, hL⟩ : ∃ L, tmLev k1 u1 = L := ⟨_, rfl⟩
  have hLi := tmLev_in k1 u1
  rw [hL] at hlv hLi HLV
  have HL := hid hL
  have glv : decide (L < l) = false := decide_eq_false hlv
  clear hok hgs hco hlu hrt hns hks hr hg ih hpw hB hbk hN hM hL hlv hlb
  have HQ : ∀ W, Below w.heap.size w W → W.heap[w.heap.size]? = some (.cells #[.int .i64 k1, .int .i64 u1, .string n1, .int .i64 tk1, .string tn1, .slice atks1 tks1.length ctks1, .slice ans1 ns1.length cns1, .slice aks1 ks1.length cks1] 36 (0, 0)) → True := fun _ _ _ => trivial
  clear HQ
  go_enter Tryz.func25, Tryz.ntmps25
  go_wp2_with fail
  refine (HLV.out _).mono ?_
  rintro e w1 ⟨rfl, hb⟩
  have HB := hid (HB0.out.trans (hb.mono HB0.out.size))
  have HX1 := hid (HX0.out.below hb)
  have b0 := HX1.out.at 0 0 rfl rfl
  have b1 := HX1.out.at 0 1 rfl rfl
  have b2 := HX1.out.at 0 2 rfl rfl
  have b3 := HX1.out.at 0 3 rfl rfl
  have b4 := HX1.out.at 0 4 rfl rfl
  have b5 := HX1.out.at 0 5 rfl rfl
  have b6 := HX1.out.at 0 6 rfl rfl
  have b7 := HX1.out.at 0 7 rfl rfl
  clear hb HX0
  obtain ⟨rfl, hn⟩ := HCS.out
  have HN := hid hn
  clear hn
  have HT := hid (show Tm.text (Tm.mk 1 u1 n1 (Ty.mk tk1 tn1 tks1) ns1 ks1) = n1 from rfl)
  have HBZ := HB
  go_wp2_with fail
  go_ret
  exact ret_strB HT.out.symm HBZ.out
set_option maxRecDepth 100000 in
set_option maxHeartbeats 8000000 in
theorem impl_body2 (N : Nat) (ih : ImPrW N) (k1 : Int) (u1 : Int) (n1 : ByteArray) (tk1 : Int) (tn1 : ByteArray) (tks1 : List Ty) (ns1 : List ByteArray) (ks1 : List Tm) (atks1 : Option Addr) (ctks1 : Nat) (ans1 : Option Addr) (cns1 : Nat) (aks1 : Option Addr) (cks1 : Nat) (l : Int) (w : World) (hcase : k1 = 2 ∧ ks1.length = 0) (hpw : Pow w) (hN : Tm.bulk (Tm.mk k1 u1 n1 (Ty.mk tk1 tn1 tks1) ns1 ks1) < N + 1) (hM : Tm.bulk (Tm.mk k1 u1 n1 (Ty.mk tk1 tn1 tks1) ns1 ks1) ≤ 1048576) (hg : Tm.good (Tm.mk k1 u1 n1 (Ty.mk tk1 tn1 tks1) ns1 ks1) = true) (hlv : ¬ tmLev k1 u1 < l) (hr : RdS w (Tm.d (Tm.mk k1 u1 n1 (Ty.mk tk1 tn1 tks1) ns1 ks1)) [.int .i64 k1, .int .i64 u1, .string n1, .int .i64 tk1, .string tn1, .slice atks1 tks1.length ctks1, .slice ans1 ns1.length cns1, .slice aks1 ks1.length cks1]) :
    Calls Tryz.prog 25 #[.agg #[.int .i64 k1, .int .i64 u1, .string n1, .int .i64 tk1, .string tn1, .slice atks1 tks1.length ctks1, .slice ans1 ns1.length cns1, .slice aks1 ks1.length cks1], .int .i64 l] w fun e w' => e = .returned (.string (Tm.text (Tm.mk k1 u1 n1 (Ty.mk tk1 tn1 tks1) ns1 ks1))) ∧ Below w.heap.size w w' := by
  have hbk : Tm.bulk (Tm.mk k1 u1 n1 (Ty.mk tk1 tn1 tks1) ns1 ks1) = n1.size + Ty.bulk (Ty.mk tk1 tn1 tks1) + Sr.bulks ns1 + Tm.bulks ks1 := rfl
  obtain ⟨hok, hco, hgs⟩ := Tm.good_parts hg
  have hlu := okTm_lint hok
  have hrt := RdS.subTm_t hr
  obtain ⟨_, ⟨lou, hiu⟩, zn, _, hns, hks⟩ := hr.fTm
  have hlb := Tm.bulks_length ks1
  have hn1 : n1.size ≤ 1048576 := by omega
  have HX0 := hid ((Boxes.nil w).alloc #[.int .i64 k1, .int .i64 u1, .string n1, .int .i64 tk1, .string tn1, .slice atks1 tks1.length ctks1, .slice ans1 ns1.length cns1, .slice aks1 ks1.length cks1] 36 (0, 0))
  have hB := (Below.refl w.heap.size w).alloc (Nat.le_refl _) (.cells #[.int .i64 k1, .int .i64 u1, .string n1, .int .i64 tk1, .string tn1, .slice atks1 tks1.length ctks1, .slice ans1 ns1.length cns1, .slice aks1 ks1.length cks1] 36)
  have HB0 := hid hB
  have HLV := hid (fun W => impl_Level k1 u1 n1 tk1 tn1 tks1 ns1 ks1 atks1 ctks1 ans1 cns1 aks1 cks1 W)
  have HCS := hid hcase
  clear hcase
  have HOK := hid hok
  have HGS := hid hgs
  have HTI := hid (TmsIn.of_rd hks)
  have HNS := hid (StrIn.of_rd hns)
  have HRT := hid hrt
  have HPW := hid hpw
  have HIH := hid ih
  have hNk : Tm.bulks ks1 ≤ N := by omega
  have hMk : Tm.bulks ks1 ≤ 1048576 := by omega
  have HKD := hid (fun (i : Nat) (z : Int) (hz : z = (i : Int)) (t : Tm) (l : Int) (W : World) (hb : Below w.heap.size w W) (h7 : W.cell? ⟨w.heap.size, 7, none⟩ = some (.slice aks1 ks1.length cks1)) (ht : ks1[i]? = some t) => (by rw [hz]; exact impl_kid N ih w.heap.size ks1 _ i t l W (hpw.below hb) hNk hMk hgs h7 ((TmsIn.of_rd hks).below hb) ht : Calls Tryz.prog 51 #[.int .i64 z, .int .i64 l, .pointer (some ⟨w.heap.size, 0, none⟩)] W fun e w' => e = .returned (.string (Tm.at l t)) ∧ Below W.heap.size W w'))
  have HSM := hid (fun (i : Nat) (t : Tm) (l : Int) (ht : ks1[i]? = some t) => Tm.at_small l (Tm.goods_get ks1 i t hgs ht) (by have := Tm.bulk_get ks1 i t ht; omega))
  have HBK := hid hbk
  have HM := hid hM
  obtain ⟨L, hL⟩ : ∃ L, tmLev k1 u1 = L := ⟨_, rfl⟩
  have hLi := tmLev_in k1 u1
  rw [hL] at hlv hLi HLV
  have HL := hid hL
  have glv : decide (L < l) = false := decide_eq_false hlv
  clear hok hgs hco hlu hrt hns hks hr hg ih hpw hB hbk hN hM hL hlv hlb
  have HQ : ∀ W, Below w.heap.size w W → W.heap[w.heap.size]? = some (.cells #[.int .i64 k1, .int .i64 u1, .string n1, .int .i64 tk1, .string tn1, .slice atks1 tks1.length ctks1, .slice ans1 ns1.length cns1, .slice aks1 ks1.length cks1] 36 (0, 0)) → True := fun _ _ _ => trivial
  clear HQ
  go_enter Tryz.func25, Tryz.ntmps25
  go_wp2_with fail
  refine (HLV.out _).mono ?_
  rintro e w1 ⟨rfl, hb⟩
  have HB := hid (HB0.out.trans (hb.mono HB0.out.size))
  have HX1 := hid (HX0.out.below hb)
  have b0 := HX1.out.at 0 0 rfl rfl
  have b1 := HX1.out.at 0 1 rfl rfl
  have b2 := HX1.out.at 0 2 rfl rfl
  have b3 := HX1.out.at 0 3 rfl rfl
  have b4 := HX1.out.at 0 4 rfl rfl
  have b5 := HX1.out.at 0 5 rfl rfl
  have b6 := HX1.out.at 0 6 rfl rfl
  have b7 := HX1.out.at 0 7 rfl rfl
  clear hb HX0
  obtain ⟨rfl, hn⟩ := HCS.out
  have HN := hid hn
  clear hn
  have HC := hid (impl_Decimal u1 lou hiu w1 (HPW.out.below HB.out))
  have hsz : (⟨(Lib.itoa u1).toArray⟩ : ByteArray).size ≤ 11 := dec_size (okTm_lint HOK.out)
  by_cases hneg : u1 < 0
  case pos =>
    have HT := hid (show Tm.text (Tm.mk 2 u1 n1 (Ty.mk tk1 tn1 tks1) ns1 ks1) = (((⟨#[40]⟩ : ByteArray) ++ (⟨(Lib.itoa u1).toArray⟩ : ByteArray)) ++ (⟨#[41]⟩ : ByteArray)) from if_pos hneg)
    have le1 : (⟨#[40]⟩ : ByteArray).size = 1 := rfl
    have le2 : (⟨#[41]⟩ : ByteArray).size = 1 := rfl
    have ce1 : ((⟨#[40]⟩ : ByteArray) ++ (⟨(Lib.itoa u1).toArray⟩ : ByteArray)).size = 1 + (⟨(Lib.itoa u1).toArray⟩ : ByteArray).size := by rw [ByteArray.size_append, le1]
    go_wp2_with fail
    refine HC.out.mono ?_
    rintro e w2 ⟨rfl, hb⟩
    have HBZ := hid (HB.out.trans (hb.mono HB.out.size))
    clear hb
    go_wp2_with fail
    go_ret
    exact ret_strB HT.out.symm HBZ.out
  case neg =>
    have HT := hid (show Tm.text (Tm.mk 2 u1 n1 (Ty.mk tk1 tn1 tks1) ns1 ks1) = (⟨(Lib.itoa u1).toArray⟩ : ByteArray) from if_neg hneg)
    go_wp2_with fail
    refine HC.out.mono ?_
    rintro e w2 ⟨rfl, hb⟩
    have HBZ := hid (HB.out.trans (hb.mono HB.out.size))
    clear hb
    go_wp2_with fail
    go_ret
    exact ret_strB HT.out.symm HBZ.out
end Go.Proofs.YtikhofcjkcbpbaaGreatDoor
/- was: PrIB -/
namespace Go.Proofs.YtikhofcjkcbpbaaGreatDoor
open Go.ChangeShapes Go.WideShapes Go.ChangeAt Go.RowKit Go.BigFrame
open Go.Sort (grow)
set_option linter.unusedVariables false

set_option maxRecDepth 100000 in
set_option maxHeartbeats 8000000 in
theorem impl_body3 (N : Nat) (ih : ImPrW N) (k1 : Int) (u1 : Int) (n1 : ByteArray) (tk1 : Int) (tn1 : ByteArray) (tks1 : List Ty) (ns1 : List ByteArray) (ks1 : List Tm) (atks1 : Option Addr) (ctks1 : Nat) (ans1 : Option Addr) (cns1 : Nat) (aks1 : Option Addr) (cks1 : Nat) (l : Int) (w : World) (hcase : k1 = 3 ∧ ks1.length = 2) (hpw : Pow w) (hN : Tm.bulk (Tm.mk k1 u1 n1 (Ty.mk tk1 tn1 tks1) ns1 ks1) < N + 1) (hM : Tm.bulk (Tm.mk k1 u1 n1 (Ty.mk tk1 tn1 tks1) ns1 ks1) ≤ 1048576) (hg : Tm.good (Tm.mk k1 u1 n1 (Ty.mk tk1 tn1 tks1) ns1 ks1) = true) (hlv : ¬ tmLev k1 u1 < l) (hr : RdS w (Tm.d (Tm.mk k1 u1 n1 (Ty.mk tk1 tn1 tks1) ns1 ks1)) [.int .i64 k1, .int .i64 u1, .string n1, .int .i64 tk1, .string tn1, .slice atks1 tks1.length ctks1, .slice ans1 ns1.length cns1, .slice aks1 ks1.length cks1]) :
    Calls Tryz.prog 25 #[.agg #[.int .i64 k1, .int .i64 u1, .string n1, .int .i64 tk1, .string tn1, .slice atks1 tks1.length ctks1, .slice ans1 ns1.length cns1, .slice aks1 ks1.length cks1], .int .i64 l] w fun e w' => e = .returned (.string (Tm.text (Tm.mk k1 u1 n1 (Ty.mk tk1 tn1 tks1) ns1 ks1))) ∧ Below w.heap.size w w' := by
  have hbk : Tm.bulk (Tm.mk k1 u1 n1 (Ty.mk tk1 tn1 tks1) ns1 ks1) = n1.size + Ty.bulk (Ty.mk tk1 tn1 tks1) + Sr.bulks ns1 + Tm.bulks ks1 := rfl
  obtain ⟨hok, hco, hgs⟩ := Tm.good_parts hg
  have hlu := okTm_lint hok
  have hrt := RdS.subTm_t hr
  obtain ⟨_, ⟨lou, hiu⟩, zn, _, hns, hks⟩ := hr.fTm
  have hlb := Tm.bulks_length ks1
  have hn1 : n1.size ≤ 1048576 := by omega
  have HX0 := hid ((Boxes.nil w).alloc #[.int .i64 k1, .int .i64 u1, .string n1, .int .i64 tk1, .string tn1, .slice atks1 tks1.length ctks1, .slice ans1 ns1.length cns1, .slice aks1 ks1.length cks1] 36 (0, 0))
  have hB := (Below.refl w.heap.size w).alloc (Nat.le_refl _) (.cells #[.int .i64 k1, .int .i64 u1, .string n1, .int .i64 tk1, .string tn1, .slice atks1 tks1.length ctks1, .slice ans1 ns1.length cns1, .slice aks1 ks1.length cks1] 36)
  have HB0 := hid hB
  have HLV := hid (fun W => impl_Level k1 u1 n1 tk1 tn1 tks1 ns1 ks1 atks1 ctks1 ans1 cns1 aks1 cks1 W)
  have HCS := hid hcase
  clear hcase
  have HOK := hid hok
  have HGS := hid hgs
  have HTI := hid (TmsIn.of_rd hks)
  have HNS := hid (StrIn.of_rd hns)
  have HRT := hid hrt
  have HPW := hid hpw
  have HIH := hid ih
  have hNk : Tm.bulks ks1 ≤ N := by omega
  have hMk : Tm.bulks ks1 ≤ 1048576 := by omega
  have HKD := hid (fun (i : Nat) (z : Int) (hz : z = (i : Int)) (t : Tm) (l : Int) (W : World) (hb : Below w.heap.size w W) (h7 : W.cell? ⟨w.heap.size, 7, none⟩ = some (.slice aks1 ks1.length cks1)) (ht : ks1[i]? = some t) => (by rw [hz]; exact impl_kid N ih w.heap.size ks1 _ i t l W (hpw.below hb) hNk hMk hgs h7 ((TmsIn.of_rd hks).below hb) ht : Calls Tryz.prog 51 #[.int .i64 z, .int .i64 l, .pointer (some ⟨w.heap.size, 0, none⟩)] W fun e w' => e = .returned (.string (Tm.at l t)) ∧ Below W.heap.size W w'))
  have HSM := hid (fun (i : Nat) (t : Tm) (l : Int) (ht : ks1[i]? = some t) => Tm.at_small l (Tm.goods_get ks1 i t hgs ht) (by have := Tm.bulk_get ks1 i t ht; omega))
  have HBK := hid hbk
  have HM := hid hM
  obtain ⟨L, hL⟩ : ∃ L, tmLev k1 u1 = L := ⟨_, rfl⟩
  have hLi := tmLev_in k1 u1
  rw [hL] at hlv hLi HLV
  have HL := hid hL
  have glv : decide (L < l) = false := decide_eq_false hlv
  clear hok hgs hco hlu hrt hns hks hr hg ih hpw hB hbk hN hM hL hlv hlb
  have HQ : ∀ W, Below w.heap.size w W → W.heap[w.heap.size]? = some (.cells #[.int .i64 k1, .int .i64 u1, .string n1, .int .i64 tk1, .string tn1, .slice atks1 tks1.length ctks1, .slice ans1 ns1.length cns1, .slice aks1 ks1.length cks1] 36 (0, 0)) → True := fun _ _ _ => trivial
  clear HQ
  go_enter Tryz.func25, Tryz.ntmps25
  go_wp2_with fail
  refine (HLV.out _).mono ?_
  rintro e w1 ⟨rfl, hb⟩
  have HB := hid (HB0.out.trans (hb.mono HB0.out.size))
  have HX1 := hid (HX0.out.below hb)
  have b0 := HX1.out.at 0 0 rfl rfl
  have b1 := HX1.out.at 0 1 rfl rfl
  have b2 := HX1.out.at 0 2 rfl rfl
  have b3 := HX1.out.at 0 3 rfl rfl
  have b4 := HX1.out.at 0 4 rfl rfl
  have b5 := HX1.out.at 0 5 rfl rfl
  have b6 := HX1.out.at 0 6 rfl rfl
  have b7 := HX1.out.at 0 7 rfl rfl
  clear hb HX0
  obtain ⟨rfl, hn⟩ := HCS.out
  have HN := hid hn
  clear hn
  obtain ⟨t0, ht0⟩ : ∃ t, ks1[0]? = some t := ⟨_, List.getElem?_eq_getElem (by have := HN.out; omega)⟩
  obtain ⟨t1, ht1⟩ : ∃ t, ks1[1]? = some t := ⟨_, List.getElem?_eq_getElem (by have := HN.out; omega)⟩
  have hk0 : kid0 (Tm.texts ks1) = (Tm.lev t0, Tm.text t0) := by unfold kid0; rw [List.getD, Tm.texts_get ks1 0 t0 ht0]; rfl
  have hk1 : kid1 (Tm.texts ks1) = (Tm.lev t1, Tm.text t1) := by unfold kid1; rw [List.getD, Tm.texts_get ks1 1 t1 ht1]; rfl
  go_wp2_with fail
  refine (HLV.out _).mono ?_
  rintro e w2 ⟨rfl, hb⟩
  have HB2 := hid (HB.out.trans (hb.mono HB.out.size))
  have y0 := (hb.cell (p := ⟨w.heap.size, 0, none⟩) (World.block_lt_of_cell? _ _ b0)).trans b0
  have y1 := (hb.cell (p := ⟨w.heap.size, 1, none⟩) (World.block_lt_of_cell? _ _ b1)).trans b1
  have y2 := (hb.cell (p := ⟨w.heap.size, 2, none⟩) (World.block_lt_of_cell? _ _ b2)).trans b2
  have y3 := (hb.cell (p := ⟨w.heap.size, 3, none⟩) (World.block_lt_of_cell? _ _ b3)).trans b3
  have y4 := (hb.cell (p := ⟨w.heap.size, 4, none⟩) (World.block_lt_of_cell? _ _ b4)).trans b4
  have y5 := (hb.cell (p := ⟨w.heap.size, 5, none⟩) (World.block_lt_of_cell? _ _ b5)).trans b5
  have y6 := (hb.cell (p := ⟨w.heap.size, 6, none⟩) (World.block_lt_of_cell? _ _ b6)).trans b6
  have y7 := (hb.cell (p := ⟨w.heap.size, 7, none⟩) (World.block_lt_of_cell? _ _ b7)).trans b7
  clear hb b0 b1 b2 b3 b4 b5 b6 b7
  by_cases hl1 : L = 1
  case pos =>
    subst hl1
    have hc0 := fun d os => Calls.regrown_of (HKD.out 0 0 rfl t0 (2) (grow (redrawn w2 d) os) (HB2.out.trans ((below_regrown _ d os).mono HB2.out.size)) (cell_regrown y7 d os) ht0)
    have hp0 := HSM.out 0 t0 (2) ht0
    have hc1 := fun d os => Calls.regrown_of (HKD.out 1 1 rfl t1 (2) (grow (redrawn w2 d) os) (HB2.out.trans ((below_regrown _ d os).mono HB2.out.size)) (cell_regrown y7 d os) ht1)
    have hp1 := HSM.out 1 t1 (2) ht1
    have HLW := hid (fun d os => Calls.regrown_of (HLV.out (grow (redrawn w2 d) os)))
    have hct := fun d os => Calls.regrown_of ((impl_OperatorText u1 (grow (redrawn w2 d) os)).mono fun e w' (h : _ ∧ _ = w') => (⟨h.1, by rw [← h.2]; exact Below.refl _ _⟩ : _ ∧ Below (grow (redrawn w2 d) os).heap.size (grow (redrawn w2 d) os) w'))
    have hzt := opText_leP u1
    have r0 := cell_regrown y0
    have r1 := cell_regrown y1
    have r2 := cell_regrown y2
    have r3 := cell_regrown y3
    have r4 := cell_regrown y4
    have r5 := cell_regrown y5
    have r6 := cell_regrown y6
    have r7 := cell_regrown y7
    have HT := hid (show Tm.text (Tm.mk 3 u1 n1 (Ty.mk tk1 tn1 tks1) ns1 ks1) = ((((Tm.at (2) t0 ++ (⟨#[32]⟩ : ByteArray)) ++ opText u1) ++ (⟨#[32]⟩ : ByteArray)) ++ Tm.at (2) t1) by rw [Tm.text]; unfold tmTxt; rw [if_neg (by omega), if_pos rfl]; unfold opLeft; simp only [HL.out, hk0, hk1]; simp only [if_true]; rfl)
    generalize Tm.at (2) t0 = p0 at hc0 hp0 HT
    generalize Tm.at (2) t1 = p1 at hc1 hp1 HT
    generalize opText u1 = z at hct hzt HT
    have HC0 := hid hc0
    have HC1 := hid hc1
    have HCT := hid hct
    have le1 : (⟨#[32]⟩ : ByteArray).size = 1 := rfl
    have ce1 : (p0 ++ (⟨#[32]⟩ : ByteArray)).size = p0.size + 1 := by rw [ByteArray.size_append, le1]
    have ce2 : ((p0 ++ (⟨#[32]⟩ : ByteArray)) ++ z).size = p0.size + 1 + z.size := by rw [ByteArray.size_append, ce1]
    have ce3 : (((p0 ++ (⟨#[32]⟩ : ByteArray)) ++ z) ++ (⟨#[32]⟩ : ByteArray)).size = p0.size + 1 + z.size + 1 := by rw [ByteArray.size_append, ce2, le1]
    clear hc0 hk0 ht0 hc1 hk1 ht1 hct
    clear y0 y1 y2 y3 y4 y5 y6 y7
    go_wp2_with fail
    refine wp_region_quiet_below (by kernel_rfl) (by kernel_rfl) ?_
    repeat (go_big_quiet_step (first | (with_reducible exact HC0.out _ _) | (with_reducible exact HC1.out _ _) | (with_reducible exact HCT.out _ _) | (with_reducible exact HLW.out _ _)))
    refine wpQuiet_nil ?_
    intro _ hw'
    obtain ⟨⟨dq, osq⟩, hw''⟩ := hw'
    subst hw''
    have HBZ := hid (HB2.out.trans ((below_regrown w2 dq osq).mono HB2.out.size))
    clear HC0 HC1 HCT HLW r0 r1 r2 r3 r4 r5 r6 r7
    go_wp2_with fail
    go_ret
    exact ret_strB HT.out.symm HBZ.out
  case neg =>
    have gl : (L == 1) = false := by simp [hl1]
    have es : wrap64 (L + 1) = L + 1 := IntWalk.wrap64_in _ (by omega)
    have hc0 := fun d os => Calls.regrown_of (HKD.out 0 0 rfl t0 (L) (grow (redrawn w2 d) os) (HB2.out.trans ((below_regrown _ d os).mono HB2.out.size)) (cell_regrown y7 d os) ht0)
    have hp0 := HSM.out 0 t0 (L) ht0
    have hc1 := fun d os => Calls.regrown_of (HKD.out 1 1 rfl t1 (L + 1) (grow (redrawn w2 d) os) (HB2.out.trans ((below_regrown _ d os).mono HB2.out.size)) (cell_regrown y7 d os) ht1)
    have hp1 := HSM.out 1 t1 (L + 1) ht1
    have HLW := hid (fun d os => Calls.regrown_of (HLV.out (grow (redrawn w2 d) os)))
    have hct := fun d os => Calls.regrown_of ((impl_OperatorText u1 (grow (redrawn w2 d) os)).mono fun e w' (h : _ ∧ _ = w') => (⟨h.1, by rw [← h.2]; exact Below.refl _ _⟩ : _ ∧ Below (grow (redrawn w2 d) os).heap.size (grow (redrawn w2 d) os) w'))
    have hzt := opText_leP u1
    have r0 := cell_regrown y0
    have r1 := cell_regrown y1
    have r2 := cell_regrown y2
    have r3 := cell_regrown y3
    have r4 := cell_regrown y4
    have r5 := cell_regrown y5
    have r6 := cell_regrown y6
    have r7 := cell_regrown y7
    have HT := hid (show Tm.text (Tm.mk 3 u1 n1 (Ty.mk tk1 tn1 tks1) ns1 ks1) = ((((Tm.at (L) t0 ++ (⟨#[32]⟩ : ByteArray)) ++ opText u1) ++ (⟨#[32]⟩ : ByteArray)) ++ Tm.at (L + 1) t1) by rw [Tm.text]; unfold tmTxt; rw [if_neg (by omega), if_pos rfl]; unfold opLeft; simp only [HL.out, hk0, hk1]; rw [if_neg hl1]; rfl)
    generalize Tm.at (L) t0 = p0 at hc0 hp0 HT
    generalize Tm.at (L + 1) t1 = p1 at hc1 hp1 HT
    generalize opText u1 = z at hct hzt HT
    have HC0 := hid hc0
    have HC1 := hid hc1
    have HCT := hid hct
    have le1 : (⟨#[32]⟩ : ByteArray).size = 1 := rfl
    have ce1 : (p0 ++ (⟨#[32]⟩ : ByteArray)).size = p0.size + 1 := by rw [ByteArray.size_append, le1]
    have ce2 : ((p0 ++ (⟨#[32]⟩ : ByteArray)) ++ z).size = p0.size + 1 + z.size := by rw [ByteArray.size_append, ce1]
    have ce3 : (((p0 ++ (⟨#[32]⟩ : ByteArray)) ++ z) ++ (⟨#[32]⟩ : ByteArray)).size = p0.size + 1 + z.size + 1 := by rw [ByteArray.size_append, ce2, le1]
    clear hc0 hk0 ht0 hc1 hk1 ht1 hct
    clear hl1
    clear y0 y1 y2 y3 y4 y5 y6 y7
    go_wp2_with fail
    refine wp_region_quiet_below (by kernel_rfl) (by kernel_rfl) ?_
    repeat (go_big_quiet_step (first | (with_reducible exact HC0.out _ _) | (with_reducible exact HC1.out _ _) | (with_reducible exact HCT.out _ _) | (with_reducible exact HLW.out _ _)))
    refine wpQuiet_nil ?_
    intro _ hw'
    obtain ⟨⟨dq, osq⟩, hw''⟩ := hw'
    subst hw''
    have HBZ := hid (HB2.out.trans ((below_regrown w2 dq osq).mono HB2.out.size))
    clear HC0 HC1 HCT HLW r0 r1 r2 r3 r4 r5 r6 r7
    go_wp2_with fail
    go_ret
    exact ret_strB HT.out.symm HBZ.out
end Go.Proofs.YtikhofcjkcbpbaaGreatDoor
/- was: PrIC -/
namespace Go.Proofs.YtikhofcjkcbpbaaGreatDoor
open Go.ChangeShapes Go.WideShapes Go.ChangeAt Go.RowKit Go.BigFrame
open Go.Sort (grow)
set_option linter.unusedVariables false

theorem Ty.ok_goodP {t : Ty} (h : Ty.ok t = true) : Ty.good t = true := by simp only [Ty.ok, Bool.and_eq_true] at h; exact h.1
set_option maxRecDepth 100000 in
set_option maxHeartbeats 8000000 in
theorem impl_body4 (N : Nat) (ih : ImPrW N) (k1 : Int) (u1 : Int) (n1 : ByteArray) (tk1 : Int) (tn1 : ByteArray) (tks1 : List Ty) (ns1 : List ByteArray) (ks1 : List Tm) (atks1 : Option Addr) (ctks1 : Nat) (ans1 : Option Addr) (cns1 : Nat) (aks1 : Option Addr) (cks1 : Nat) (l : Int) (w : World) (hcase : k1 = 4 ∧ ks1.length = 1 ∧ Ty.ok (Ty.mk tk1 tn1 tks1) = true) (hpw : Pow w) (hN : Tm.bulk (Tm.mk k1 u1 n1 (Ty.mk tk1 tn1 tks1) ns1 ks1) < N + 1) (hM : Tm.bulk (Tm.mk k1 u1 n1 (Ty.mk tk1 tn1 tks1) ns1 ks1) ≤ 1048576) (hg : Tm.good (Tm.mk k1 u1 n1 (Ty.mk tk1 tn1 tks1) ns1 ks1) = true) (hlv : ¬ tmLev k1 u1 < l) (hr : RdS w (Tm.d (Tm.mk k1 u1 n1 (Ty.mk tk1 tn1 tks1) ns1 ks1)) [.int .i64 k1, .int .i64 u1, .string n1, .int .i64 tk1, .string tn1, .slice atks1 tks1.length ctks1, .slice ans1 ns1.length cns1, .slice aks1 ks1.length cks1]) :
    Calls Tryz.prog 25 #[.agg #[.int .i64 k1, .int .i64 u1, .string n1, .int .i64 tk1, .string tn1, .slice atks1 tks1.length ctks1, .slice ans1 ns1.length cns1, .slice aks1 ks1.length cks1], .int .i64 l] w fun e w' => e = .returned (.string (Tm.text (Tm.mk k1 u1 n1 (Ty.mk tk1 tn1 tks1) ns1 ks1))) ∧ Below w.heap.size w w' := by
  have hbk : Tm.bulk (Tm.mk k1 u1 n1 (Ty.mk tk1 tn1 tks1) ns1 ks1) = n1.size + Ty.bulk (Ty.mk tk1 tn1 tks1) + Sr.bulks ns1 + Tm.bulks ks1 := rfl
  obtain ⟨hok, hco, hgs⟩ := Tm.good_parts hg
  have hlu := okTm_lint hok
  have hrt := RdS.subTm_t hr
  obtain ⟨_, ⟨lou, hiu⟩, zn, _, hns, hks⟩ := hr.fTm
  have hlb := Tm.bulks_length ks1
  have hn1 : n1.size ≤ 1048576 := by omega
  have HX0 := hid ((Boxes.nil w).alloc #[.int .i64 k1, .int .i64 u1, .string n1, .int .i64 tk1, .string tn1, .slice atks1 tks1.length ctks1, .slice ans1 ns1.length cns1, .slice aks1 ks1.length cks1] 36 (0, 0))
  have hB := (Below.refl w.heap.size w).alloc (Nat.le_refl _) (.cells #[.int .i64 k1, .int .i64 u1, .string n1, .int .i64 tk1, .string tn1, .slice atks1 tks1.length ctks1, .slice ans1 ns1.length cns1, .slice aks1 ks1.length cks1] 36)
  have HB0 := hid hB
  have HLV := hid (fun W => impl_Level k1 u1 n1 tk1 tn1 tks1 ns1 ks1 atks1 ctks1 ans1 cns1 aks1 cks1 W)
  have HCS := hid hcase
  clear hcase
  have HOK := hid hok
  have HGS := hid hgs
  have HTI := hid (TmsIn.of_rd hks)
  have HNS := hid (StrIn.of_rd hns)
  have HRT := hid hrt
  have HPW := hid hpw
  have HIH := hid ih
  have hNk : Tm.bulks ks1 ≤ N := by omega
  have hMk : Tm.bulks ks1 ≤ 1048576 := by omega
  have HKD := hid (fun (i : Nat) (z : Int) (hz : z = (i : Int)) (t : Tm) (l : Int) (W : World) (hb : Below w.heap.size w W) (h7 : W.cell? ⟨w.heap.size, 7, none⟩ = some (.slice aks1 ks1.length cks1)) (ht : ks1[i]? = some t) => (by rw [hz]; exact impl_kid N ih w.heap.size ks1 _ i t l W (hpw.below hb) hNk hMk hgs h7 ((TmsIn.of_rd hks).below hb) ht : Calls Tryz.prog 51 #[.int .i64 z, .int .i64 l, .pointer (some ⟨w.heap.size, 0, none⟩)] W fun e w' => e = .returned (.string (Tm.at l t)) ∧ Below W.heap.size W w'))
  have HSM := hid (fun (i : Nat) (t : Tm) (l : Int) (ht : ks1[i]? = some t) => Tm.at_small l (Tm.goods_get ks1 i t hgs ht) (by have := Tm.bulk_get ks1 i t ht; omega))
  have HBK := hid hbk
  have HM := hid hM
  obtain ⟨L, hL⟩ : ∃ L, tmLev k1 u1 = L := ⟨_, rfl⟩
  have hLi := tmLev_in k1 u1
  rw [hL] at hlv hLi HLV
  have HL := hid hL
  have glv : decide (L < l) = false := decide_eq_false hlv
  clear hok hgs hco hlu hrt hns hks hr hg ih hpw hB hbk hN hM hL hlv hlb
  have HQ : ∀ W, Below w.heap.size w W → W.heap[w.heap.size]? = some (.cells #[.int .i64 k1, .int .i64 u1, .string n1, .int .i64 tk1, .string tn1, .slice atks1 tks1.length ctks1, .slice ans1 ns1.length cns1, .slice aks1 ks1.length cks1] 36 (0, 0)) → True := fun _ _ _ => trivial
  clear HQ
  go_enter Tryz.func25, Tryz.ntmps25
  go_wp2_with fail
  refine (HLV.out _).mono ?_
  rintro e w1 ⟨rfl, hb⟩
  have HB := hid (HB0.out.trans (hb.mono HB0.out.size))
  have HX1 := hid (HX0.out.below hb)
  have b0 := HX1.out.at 0 0 rfl rfl
  have b1 := HX1.out.at 0 1 rfl rfl
  have b2 := HX1.out.at 0 2 rfl rfl
  have b3 := HX1.out.at 0 3 rfl rfl
  have b4 := HX1.out.at 0 4 rfl rfl
  have b5 := HX1.out.at 0 5 rfl rfl
  have b6 := HX1.out.at 0 6 rfl rfl
  have b7 := HX1.out.at 0 7 rfl rfl
  clear hb HX0
  obtain ⟨rfl, hn, hty⟩ := HCS.out
  have HN := hid hn
  clear hn
  obtain ⟨t0, ht0⟩ : ∃ t, ks1[0]? = some t := ⟨_, List.getElem?_eq_getElem (by have := HN.out; omega)⟩
  have hk0 : kid0 (Tm.texts ks1) = (Tm.lev t0, Tm.text t0) := by unfold kid0; rw [List.getD, Tm.texts_get ks1 0 t0 ht0]; rfl
  have hc0 := fun d os => Calls.regrown_of (HKD.out 0 0 rfl t0 (0) (grow (redrawn w1 d) os) (HB.out.trans ((below_regrown _ d os).mono HB.out.size)) (cell_regrown b7 d os) ht0)
  have hp0 := HSM.out 0 t0 (0) ht0
  have hct := fun d os => Calls.regrown_of (impl_text_all (Ty.bulk (Ty.mk tk1 tn1 tks1) + 1) tk1 tn1 tks1 atks1 ctks1 (grow (redrawn w1 d) os) (by omega) (by have := HBK.out; have := HM.out; omega) (Ty.ok_goodP hty) (HRT.out.below (HB.out.trans ((below_regrown _ d os).mono HB.out.size))))
  have hzt := Ty.text_small (t := Ty.mk tk1 tn1 tks1) (by have := HBK.out; have := HM.out; omega)
  have r2 := cell_regrown b2
  have r3 := cell_regrown b3
  have r4 := cell_regrown b4
  have r5 := cell_regrown b5
  have HT := hid (show Tm.text (Tm.mk 4 u1 n1 (Ty.mk tk1 tn1 tks1) ns1 ks1) = ((((((⟨#[92]⟩ : ByteArray) ++ n1) ++ (⟨#[58]⟩ : ByteArray)) ++ Ty.text (Ty.mk tk1 tn1 tks1)) ++ (⟨#[46, 32]⟩ : ByteArray)) ++ Tm.at (0) t0) by rw [Tm.text]; unfold tmTxt; simp only [hk0]; rfl)
  generalize Tm.at (0) t0 = p0 at hc0 hp0 HT
  generalize Ty.text (Ty.mk tk1 tn1 tks1) = ty at hct hzt HT
  have HC0 := hid hc0
  have HCT := hid hct
  have le1 : (⟨#[92]⟩ : ByteArray).size = 1 := rfl
  have le2 : (⟨#[58]⟩ : ByteArray).size = 1 := rfl
  have le3 : (⟨#[46, 32]⟩ : ByteArray).size = 2 := rfl
  have ce1 : ((⟨#[92]⟩ : ByteArray) ++ n1).size = 1 + n1.size := by rw [ByteArray.size_append, le1]
  have ce2 : (((⟨#[92]⟩ : ByteArray) ++ n1) ++ (⟨#[58]⟩ : ByteArray)).size = 1 + n1.size + 1 := by rw [ByteArray.size_append, ce1, le2]
  have ce3 : ((((⟨#[92]⟩ : ByteArray) ++ n1) ++ (⟨#[58]⟩ : ByteArray)) ++ ty).size = 1 + n1.size + 1 + ty.size := by rw [ByteArray.size_append, ce2]
  have ce4 : (((((⟨#[92]⟩ : ByteArray) ++ n1) ++ (⟨#[58]⟩ : ByteArray)) ++ ty) ++ (⟨#[46, 32]⟩ : ByteArray)).size = 1 + n1.size + 1 + ty.size + 2 := by rw [ByteArray.size_append, ce3, le3]
  clear hc0 hk0 ht0 hct
  clear hty
  clear b1 b2 b3 b4 b5 b6 b7
  go_wp2_with fail
  refine wp_region_quiet_below (by kernel_rfl) (by kernel_rfl) ?_
  repeat (go_big_quiet_step (first | (with_reducible exact HC0.out _ _) | (with_reducible exact HCT.out _ _)))
  refine wpQuiet_nil ?_
  intro _ hw'
  obtain ⟨⟨dq, osq⟩, hw''⟩ := hw'
  subst hw''
  have HBZ := hid (HB.out.trans ((below_regrown w1 dq osq).mono HB.out.size))
  clear HC0 HCT r2 r3 r4 r5
  go_wp2_with fail
  go_ret
  exact ret_strB HT.out.symm HBZ.out
end Go.Proofs.YtikhofcjkcbpbaaGreatDoor
/- was: PrID -/
namespace Go.Proofs.YtikhofcjkcbpbaaGreatDoor
open Go.ChangeShapes Go.WideShapes Go.ChangeAt Go.RowKit Go.BigFrame
open Go.Sort (grow)
set_option linter.unusedVariables false

set_option maxRecDepth 100000 in
set_option maxHeartbeats 8000000 in
theorem impl_body5 (N : Nat) (ih : ImPrW N) (k1 : Int) (u1 : Int) (n1 : ByteArray) (tk1 : Int) (tn1 : ByteArray) (tks1 : List Ty) (ns1 : List ByteArray) (ks1 : List Tm) (atks1 : Option Addr) (ctks1 : Nat) (ans1 : Option Addr) (cns1 : Nat) (aks1 : Option Addr) (cks1 : Nat) (l : Int) (w : World) (hcase : k1 = 5 ∧ ks1.length = 2) (hpw : Pow w) (hN : Tm.bulk (Tm.mk k1 u1 n1 (Ty.mk tk1 tn1 tks1) ns1 ks1) < N + 1) (hM : Tm.bulk (Tm.mk k1 u1 n1 (Ty.mk tk1 tn1 tks1) ns1 ks1) ≤ 1048576) (hg : Tm.good (Tm.mk k1 u1 n1 (Ty.mk tk1 tn1 tks1) ns1 ks1) = true) (hlv : ¬ tmLev k1 u1 < l) (hr : RdS w (Tm.d (Tm.mk k1 u1 n1 (Ty.mk tk1 tn1 tks1) ns1 ks1)) [.int .i64 k1, .int .i64 u1, .string n1, .int .i64 tk1, .string tn1, .slice atks1 tks1.length ctks1, .slice ans1 ns1.length cns1, .slice aks1 ks1.length cks1]) :
    Calls Tryz.prog 25 #[.agg #[.int .i64 k1, .int .i64 u1, .string n1, .int .i64 tk1, .string tn1, .slice atks1 tks1.length ctks1, .slice ans1 ns1.length cns1, .slice aks1 ks1.length cks1], .int .i64 l] w fun e w' => e = .returned (.string (Tm.text (Tm.mk k1 u1 n1 (Ty.mk tk1 tn1 tks1) ns1 ks1))) ∧ Below w.heap.size w w' := by
  have hbk : Tm.bulk (Tm.mk k1 u1 n1 (Ty.mk tk1 tn1 tks1) ns1 ks1) = n1.size + Ty.bulk (Ty.mk tk1 tn1 tks1) + Sr.bulks ns1 + Tm.bulks ks1 := rfl
  obtain ⟨hok, hco, hgs⟩ := Tm.good_parts hg
  have hlu := okTm_lint hok
  have hrt := RdS.subTm_t hr
  obtain ⟨_, ⟨lou, hiu⟩, zn, _, hns, hks⟩ := hr.fTm
  have hlb := Tm.bulks_length ks1
  have hn1 : n1.size ≤ 1048576 := by omega
  have HX0 := hid ((Boxes.nil w).alloc #[.int .i64 k1, .int .i64 u1, .string n1, .int .i64 tk1, .string tn1, .slice atks1 tks1.length ctks1, .slice ans1 ns1.length cns1, .slice aks1 ks1.length cks1] 36 (0, 0))
  have hB := (Below.refl w.heap.size w).alloc (Nat.le_refl _) (.cells #[.int .i64 k1, .int .i64 u1, .string n1, .int .i64 tk1, .string tn1, .slice atks1 tks1.length ctks1, .slice ans1 ns1.length cns1, .slice aks1 ks1.length cks1] 36)
  have HB0 := hid hB
  have HLV := hid (fun W => impl_Level k1 u1 n1 tk1 tn1 tks1 ns1 ks1 atks1 ctks1 ans1 cns1 aks1 cks1 W)
  have HCS := hid hcase
  clear hcase
  have HOK := hid hok
  have HGS := hid hgs
  have HTI := hid (TmsIn.of_rd hks)
  have HNS := hid (StrIn.of_rd hns)
  have HRT := hid hrt
  have HPW := hid hpw
  have HIH := hid ih
  have hNk : Tm.bulks ks1 ≤ N := by omega
  have hMk : Tm.bulks ks1 ≤ 1048576 := by omega
  have HKD := hid (fun (i : Nat) (z : Int) (hz : z = (i : Int)) (t : Tm) (l : Int) (W : World) (hb : Below w.heap.size w W) (h7 : W.cell? ⟨w.heap.size, 7, none⟩ = some (.slice aks1 ks1.length cks1)) (ht : ks1[i]? = some t) => (by rw [hz]; exact impl_kid N ih w.heap.size ks1 _ i t l W (hpw.below hb) hNk hMk hgs h7 ((TmsIn.of_rd hks).below hb) ht : Calls Tryz.prog 51 #[.int .i64 z, .int .i64 l, .pointer (some ⟨w.heap.size, 0, none⟩)] W fun e w' => e = .returned (.string (Tm.at l t)) ∧ Below W.heap.size W w'))
  have HSM := hid (fun (i : Nat) (t : Tm) (l : Int) (ht : ks1[i]? = some t) => Tm.at_small l (Tm.goods_get ks1 i t hgs ht) (by have := Tm.bulk_get ks1 i t ht; omega))
  have HBK := hid hbk
  have HM := hid hM
  obtain ⟨L, hL⟩ : ∃ L, tmLev k1 u1 = L := ⟨_, rfl⟩
  have hLi := tmLev_in k1 u1
  rw [hL] at hlv hLi HLV
  have HL := hid hL
  have glv : decide (L < l) = false := decide_eq_false hlv
  clear hok hgs hco hlu hrt hns hks hr hg ih hpw hB hbk hN hM hL hlv hlb
  have HQ : ∀ W, Below w.heap.size w W → W.heap[w.heap.size]? = some (.cells #[.int .i64 k1, .int .i64 u1, .string n1, .int .i64 tk1, .string tn1, .slice atks1 tks1.length ctks1, .slice ans1 ns1.length cns1, .slice aks1 ks1.length cks1] 36 (0, 0)) → True := fun _ _ _ => trivial
  clear HQ
  go_enter Tryz.func25, Tryz.ntmps25
  go_wp2_with fail
  refine (HLV.out _).mono ?_
  rintro e w1 ⟨rfl, hb⟩
  have HB := hid (HB0.out.trans (hb.mono HB0.out.size))
  have HX1 := hid (HX0.out.below hb)
  have b0 := HX1.out.at 0 0 rfl rfl
  have b1 := HX1.out.at 0 1 rfl rfl
  have b2 := HX1.out.at 0 2 rfl rfl
  have b3 := HX1.out.at 0 3 rfl rfl
  have b4 := HX1.out.at 0 4 rfl rfl
  have b5 := HX1.out.at 0 5 rfl rfl
  have b6 := HX1.out.at 0 6 rfl rfl
  have b7 := HX1.out.at 0 7 rfl rfl
  clear hb HX0
  obtain ⟨rfl, hn⟩ := HCS.out
  have HN := hid hn
  clear hn
  obtain ⟨t0, ht0⟩ : ∃ t, ks1[0]? = some t := ⟨_, List.getElem?_eq_getElem (by have := HN.out; omega)⟩
  obtain ⟨t1, ht1⟩ : ∃ t, ks1[1]? = some t := ⟨_, List.getElem?_eq_getElem (by have := HN.out; omega)⟩
  have hk0 : kid0 (Tm.texts ks1) = (Tm.lev t0, Tm.text t0) := by unfold kid0; rw [List.getD, Tm.texts_get ks1 0 t0 ht0]; rfl
  have hk1 : kid1 (Tm.texts ks1) = (Tm.lev t1, Tm.text t1) := by unfold kid1; rw [List.getD, Tm.texts_get ks1 1 t1 ht1]; rfl
  have hc0 := fun W (hb : Below w1.heap.size w1 W) => HKD.out 0 0 rfl t0 (4) W (HB.out.trans (hb.mono HB.out.size)) ((hb.cell (p := ⟨w.heap.size, 7, none⟩) (World.block_lt_of_cell? _ _ b7)).trans b7) ht0
  have hp0 := HSM.out 0 t0 (4) ht0
  have hc1 := fun W (hb : Below w1.heap.size w1 W) => HKD.out 1 1 rfl t1 (5) W (HB.out.trans (hb.mono HB.out.size)) ((hb.cell (p := ⟨w.heap.size, 7, none⟩) (World.block_lt_of_cell? _ _ b7)).trans b7) ht1
  have hp1 := HSM.out 1 t1 (5) ht1
  have HT := hid (show Tm.text (Tm.mk 5 u1 n1 (Ty.mk tk1 tn1 tks1) ns1 ks1) = ((Tm.at (4) t0 ++ (⟨#[32]⟩ : ByteArray)) ++ Tm.at (5) t1) by rw [Tm.text]; unfold tmTxt; simp only [hk0, hk1]; rfl)
  generalize Tm.at (4) t0 = p0 at hc0 hp0 HT
  generalize Tm.at (5) t1 = p1 at hc1 hp1 HT
  have HC0 := hid hc0
  have HC1 := hid hc1
  have le1 : (⟨#[32]⟩ : ByteArray).size = 1 := rfl
  have ce1 : (p0 ++ (⟨#[32]⟩ : ByteArray)).size = p0.size + 1 := by rw [ByteArray.size_append, le1]
  clear hc0 hk0 ht0 hc1 hk1 ht1
  go_wp2_with fail
  refine (HC0.out _ (Below.refl _ _)).mono ?_
  rintro e v0 ⟨rfl, hb0⟩
  have HV1 := hid ((Below.refl w1.heap.size w1).trans (hb0.mono (Below.refl w1.heap.size w1).size))
  clear hb0
  go_wp2_with fail
  refine (HC1.out _ HV1.out).mono ?_
  rintro e v1 ⟨rfl, hb1⟩
  have HV2 := hid (HV1.out.trans (hb1.mono HV1.out.size))
  clear hb1
  have HBZ := hid (HB.out.trans (HV2.out.mono HB.out.size))
  go_wp2_with fail
  go_ret
  exact ret_strB HT.out.symm HBZ.out
set_option maxRecDepth 100000 in
set_option maxHeartbeats 8000000 in
theorem impl_body6 (N : Nat) (ih : ImPrW N) (k1 : Int) (u1 : Int) (n1 : ByteArray) (tk1 : Int) (tn1 : ByteArray) (tks1 : List Ty) (ns1 : List ByteArray) (ks1 : List Tm) (atks1 : Option Addr) (ctks1 : Nat) (ans1 : Option Addr) (cns1 : Nat) (aks1 : Option Addr) (cks1 : Nat) (l : Int) (w : World) (hcase : k1 = 6 ∧ ks1.length = 1) (hpw : Pow w) (hN : Tm.bulk (Tm.mk k1 u1 n1 (Ty.mk tk1 tn1 tks1) ns1 ks1) < N + 1) (hM : Tm.bulk (Tm.mk k1 u1 n1 (Ty.mk tk1 tn1 tks1) ns1 ks1) ≤ 1048576) (hg : Tm.good (Tm.mk k1 u1 n1 (Ty.mk tk1 tn1 tks1) ns1 ks1) = true) (hlv : ¬ tmLev k1 u1 < l) (hr : RdS w (Tm.d (Tm.mk k1 u1 n1 (Ty.mk tk1 tn1 tks1) ns1 ks1)) [.int .i64 k1, .int .i64 u1, .string n1, .int .i64 tk1, .string tn1, .slice atks1 tks1.length ctks1, .slice ans1 ns1.length cns1, .slice aks1 ks1.length cks1]) :
    Calls Tryz.prog 25 #[.agg #[.int .i64 k1, .int .i64 u1, .string n1, .int .i64 tk1, .string tn1, .slice atks1 tks1.length ctks1, .slice ans1 ns1.length cns1, .slice aks1 ks1.length cks1], .int .i64 l] w fun e w' => e = .returned (.string (Tm.text (Tm.mk k1 u1 n1 (Ty.mk tk1 tn1 tks1) ns1 ks1))) ∧ Below w.heap.size w w' := by
  have hbk : Tm.bulk (Tm.mk k1 u1 n1 (Ty.mk tk1 tn1 tks1) ns1 ks1) = n1.size + Ty.bulk (Ty.mk tk1 tn1 tks1) + Sr.bulks ns1 + Tm.bulks ks1 := rfl
  obtain ⟨hok, hco, hgs⟩ := Tm.good_parts hg
  have hlu := okTm_lint hok
  have hrt := RdS.subTm_t hr
  obtain ⟨_, ⟨lou, hiu⟩, zn, _, hns, hks⟩ := hr.fTm
  have hlb := Tm.bulks_length ks1
  have hn1 : n1.size ≤ 1048576 := by omega
  have HX0 := hid ((Boxes.nil w).alloc #[.int .i64 k1, .int .i64 u1, .string n1, .int .i64 tk1, .string tn1, .slice atks1 tks1.length ctks1, .slice ans1 ns1.length cns1, .slice aks1 ks1.length cks1] 36 (0, 0))
  have hB := (Below.refl w.heap.size w).alloc (Nat.le_refl _) (.cells #[.int .i64 k1, .int .i64 u1, .string n1, .int .i64 tk1, .string tn1, .slice atks1 tks1.length ctks1, .slice ans1 ns1.length cns1, .slice aks1 ks1.length cks1] 36)
  have HB0 := hid hB
  have HLV := hid (fun W => impl_Level k1 u1 n1 tk1 tn1 tks1 ns1 ks1 atks1 ctks1 ans1 cns1 aks1 cks1 W)
  have HCS := hid hcase
  clear hcase
  have HOK := hid hok
  have HGS := hid hgs
  have HTI := hid (TmsIn.of_rd hks)
  have HNS := hid (StrIn.of_rd hns)
  have HRT := hid hrt
  have HPW := hid hpw
  have HIH := hid ih
  have hNk : Tm.bulks ks1 ≤ N := by omega
  have hMk : Tm.bulks ks1 ≤ 1048576 := by omega
  have HKD := hid (fun (i : Nat) (z : Int) (hz : z = (i : Int)) (t : Tm) (l : Int) (W : World) (hb : Below w.heap.size w W) (h7 : W.cell? ⟨w.heap.size, 7, none⟩ = some (.slice aks1 ks1.length cks1)) (ht : ks1[i]? = some t) => (by rw [hz]; exact impl_kid N ih w.heap.size ks1 _ i t l W (hpw.below hb) hNk hMk hgs h7 ((TmsIn.of_rd hks).below hb) ht : Calls Tryz.prog 51 #[.int .i64 z, .int .i64 l, .pointer (some ⟨w.heap.size, 0, none⟩)] W fun e w' => e = .returned (.string (Tm.at l t)) ∧ Below W.heap.size W w'))
  have HSM := hid (fun (i : Nat) (t : Tm) (l : Int) (ht : ks1[i]? = some t) => Tm.at_small l (Tm.goods_get ks1 i t hgs ht) (by have := Tm.bulk_get ks1 i t ht; omega))
  have HBK := hid hbk
  have HM := hid hM
  obtain ⟨L, hL⟩ : ∃ L, tmLev k1 u1 = L := ⟨_, rfl⟩
  have hLi := tmLev_in k1 u1
  rw [hL] at hlv hLi HLV
  have HL := hid hL
  have glv : decide (L < l) = false := decide_eq_false hlv
  clear hok hgs hco hlu hrt hns hks hr hg ih hpw hB hbk hN hM hL hlv hlb
  have HQ : ∀ W, Below w.heap.size w W → W.heap[w.heap.size]? = some (.cells #[.int .i64 k1, .int .i64 u1, .string n1, .int .i64 tk1, .string tn1, .slice atks1 tks1.length ctks1, .slice ans1 ns1.length cns1, .slice aks1 ks1.length cks1] 36 (0, 0)) → True := fun _ _ _ => trivial
  clear HQ
  go_enter Tryz.func25, Tryz.ntmps25
  go_wp2_with fail
  refine (HLV.out _).mono ?_
  rintro e w1 ⟨rfl, hb⟩
  have HB := hid (HB0.out.trans (hb.mono HB0.out.size))
  have HX1 := hid (HX0.out.below hb)
  have b0 := HX1.out.at 0 0 rfl rfl
  have b1 := HX1.out.at 0 1 rfl rfl
  have b2 := HX1.out.at 0 2 rfl rfl
  have b3 := HX1.out.at 0 3 rfl rfl
  have b4 := HX1.out.at 0 4 rfl rfl
  have b5 := HX1.out.at 0 5 rfl rfl
  have b6 := HX1.out.at 0 6 rfl rfl
  have b7 := HX1.out.at 0 7 rfl rfl
  clear hb HX0
  obtain ⟨rfl, hn⟩ := HCS.out
  have HN := hid hn
  clear hn
  obtain ⟨t0, ht0⟩ : ∃ t, ks1[0]? = some t := ⟨_, List.getElem?_eq_getElem (by have := HN.out; omega)⟩
  have hk0 : kid0 (Tm.texts ks1) = (Tm.lev t0, Tm.text t0) := by unfold kid0; rw [List.getD, Tm.texts_get ks1 0 t0 ht0]; rfl
  have hc0 := fun W (hb : Below w1.heap.size w1 W) => HKD.out 0 0 rfl t0 (5) W (HB.out.trans (hb.mono HB.out.size)) ((hb.cell (p := ⟨w.heap.size, 7, none⟩) (World.block_lt_of_cell? _ _ b7)).trans b7) ht0
  have hp0 := HSM.out 0 t0 (5) ht0
  have HT := hid (show Tm.text (Tm.mk 6 u1 n1 (Ty.mk tk1 tn1 tks1) ns1 ks1) = ((⟨#[33]⟩ : ByteArray) ++ Tm.at (5) t0) by rw [Tm.text]; unfold tmTxt; simp only [hk0]; rfl)
  generalize Tm.at (5) t0 = p0 at hc0 hp0 HT
  have HC0 := hid hc0
  have le1 : (⟨#[33]⟩ : ByteArray).size = 1 := rfl
  clear hc0 hk0 ht0
  go_wp2_with fail
  refine (HC0.out _ (Below.refl _ _)).mono ?_
  rintro e v0 ⟨rfl, hb0⟩
  have HV1 := hid ((Below.refl w1.heap.size w1).trans (hb0.mono (Below.refl w1.heap.size w1).size))
  clear hb0
  have HBZ := hid (HB.out.trans (HV1.out.mono HB.out.size))
  go_wp2_with fail
  go_ret
  exact ret_strB HT.out.symm HBZ.out
set_option maxRecDepth 100000 in
set_option maxHeartbeats 8000000 in
theorem impl_body7 (N : Nat) (ih : ImPrW N) (k1 : Int) (u1 : Int) (n1 : ByteArray) (tk1 : Int) (tn1 : ByteArray) (tks1 : List Ty) (ns1 : List ByteArray) (ks1 : List Tm) (atks1 : Option Addr) (ctks1 : Nat) (ans1 : Option Addr) (cns1 : Nat) (aks1 : Option Addr) (cks1 : Nat) (l : Int) (w : World) (hcase : k1 = 7 ∧ ks1.length = 2) (hpw : Pow w) (hN : Tm.bulk (Tm.mk k1 u1 n1 (Ty.mk tk1 tn1 tks1) ns1 ks1) < N + 1) (hM : Tm.bulk (Tm.mk k1 u1 n1 (Ty.mk tk1 tn1 tks1) ns1 ks1) ≤ 1048576) (hg : Tm.good (Tm.mk k1 u1 n1 (Ty.mk tk1 tn1 tks1) ns1 ks1) = true) (hlv : ¬ tmLev k1 u1 < l) (hr : RdS w (Tm.d (Tm.mk k1 u1 n1 (Ty.mk tk1 tn1 tks1) ns1 ks1)) [.int .i64 k1, .int .i64 u1, .string n1, .int .i64 tk1, .string tn1, .slice atks1 tks1.length ctks1, .slice ans1 ns1.length cns1, .slice aks1 ks1.length cks1]) :
    Calls Tryz.prog 25 #[.agg #[.int .i64 k1, .int .i64 u1, .string n1, .int .i64 tk1, .string tn1, .slice atks1 tks1.length ctks1, .slice ans1 ns1.length cns1, .slice aks1 ks1.length cks1], .int .i64 l] w fun e w' => e = .returned (.string (Tm.text (Tm.mk k1 u1 n1 (Ty.mk tk1 tn1 tks1) ns1 ks1))) ∧ Below w.heap.size w w' := by
  have hbk : Tm.bulk (Tm.mk k1 u1 n1 (Ty.mk tk1 tn1 tks1) ns1 ks1) = n1.size + Ty.bulk (Ty.mk tk1 tn1 tks1) + Sr.bulks ns1 + Tm.bulks ks1 := rfl
  obtain ⟨hok, hco, hgs⟩ := Tm.good_parts hg
  have hlu := okTm_lint hok
  have hrt := RdS.subTm_t hr
  obtain ⟨_, ⟨lou, hiu⟩, zn, _, hns, hks⟩ := hr.fTm
  have hlb := Tm.bulks_length ks1
  have hn1 : n1.size ≤ 1048576 := by omega
  have HX0 := hid ((Boxes.nil w).alloc #[.int .i64 k1, .int .i64 u1, .string n1, .int .i64 tk1, .string tn1, .slice atks1 tks1.length ctks1, .slice ans1 ns1.length cns1, .slice aks1 ks1.length cks1] 36 (0, 0))
  have hB := (Below.refl w.heap.size w).alloc (Nat.le_refl _) (.cells #[.int .i64 k1, .int .i64 u1, .string n1, .int .i64 tk1, .string tn1, .slice atks1 tks1.length ctks1, .slice ans1 ns1.length cns1, .slice aks1 ks1.length cks1] 36)
  have HB0 := hid hB
  have HLV := hid (fun W => impl_Level k1 u1 n1 tk1 tn1 tks1 ns1 ks1 atks1 ctks1 ans1 cns1 aks1 cks1 W)
  have HCS := hid hcase
  clear hcase
  have HOK := hid hok
  have HGS := hid hgs
  have HTI := hid (TmsIn.of_rd hks)
  have HNS := hid (StrIn.of_rd hns)
  have HRT := hid hrt
  have HPW := hid hpw
  have HIH := hid ih
  have hNk : Tm.bulks ks1 ≤ N := by omega
  have hMk : Tm.bulks ks1 ≤ 1048576 := by omega
  have HKD := hid (fun (i : Nat) (z : Int) (hz : z = (i : Int)) (t : Tm) (l : Int) (W : World) (hb : Below w.heap.size w W) (h7 : W.cell? ⟨w.heap.size, 7, none⟩ = some (.slice aks1 ks1.length cks1)) (ht : ks1[i]? = some t) => (by rw [hz]; exact impl_kid N ih w.heap.size ks1 _ i t l W (hpw.below hb) hNk hMk hgs h7 ((TmsIn.of_rd hks).below hb) ht : Calls Tryz.prog 51 #[.int .i64 z, .int .i64 l, .pointer (some ⟨w.heap.size, 0, none⟩)] W fun e w' => e = .returned (.string (Tm.at l t)) ∧ Below W.heap.size W w'))
  have HSM := hid (fun (i : Nat) (t : Tm) (l : Int) (ht : ks1[i]? = some t) => Tm.at_small l (Tm.goods_get ks1 i t hgs ht) (by have := Tm.bulk_get ks1 i t ht; omega))
  have HBK := hid hbk
  have HM := hid hM
  obtain ⟨L, hL⟩ : ∃ L, tmLev k1 u1 = L := ⟨_, rfl⟩
  have hLi := tmLev_in k1 u1
  rw [hL] at hlv hLi HLV
  have HL := hid hL
  have glv : decide (L < l) = false := decide_eq_false hlv
  clear hok hgs hco hlu hrt hns hks hr hg ih hpw hB hbk hN hM hL hlv hlb
  have HQ : ∀ W, Below w.heap.size w W → W.heap[w.heap.size]? = some (.cells #[.int .i64 k1, .int .i64 u1, .string n1, .int .i64 tk1, .string tn1, .slice atks1 tks1.length ctks1, .slice ans1 ns1.length cns1, .slice aks1 ks1.length cks1] 36 (0, 0)) → True := fun _ _ _ => trivial
  clear HQ
  go_enter Tryz.func25, Tryz.ntmps25
  go_wp2_with fail
  refine (HLV.out _).mono ?_
  rintro e w1 ⟨rfl, hb⟩
  have HB := hid (HB0.out.trans (hb.mono HB0.out.size))
  have HX1 := hid (HX0.out.below hb)
  have b0 := HX1.out.at 0 0 rfl rfl
  have b1 := HX1.out.at 0 1 rfl rfl
  have b2 := HX1.out.at 0 2 rfl rfl
  have b3 := HX1.out.at 0 3 rfl rfl
  have b4 := HX1.out.at 0 4 rfl rfl
  have b5 := HX1.out.at 0 5 rfl rfl
  have b6 := HX1.out.at 0 6 rfl rfl
  have b7 := HX1.out.at 0 7 rfl rfl
  clear hb HX0
  obtain ⟨rfl, hn⟩ := HCS.out
  have HN := hid hn
  clear hn
  obtain ⟨t0, ht0⟩ : ∃ t, ks1[0]? = some t := ⟨_, List.getElem?_eq_getElem (by have := HN.out; omega)⟩
  obtain ⟨t1, ht1⟩ : ∃ t, ks1[1]? = some t := ⟨_, List.getElem?_eq_getElem (by have := HN.out; omega)⟩
  have hk0 : kid0 (Tm.texts ks1) = (Tm.lev t0, Tm.text t0) := by unfold kid0; rw [List.getD, Tm.texts_get ks1 0 t0 ht0]; rfl
  have hk1 : kid1 (Tm.texts ks1) = (Tm.lev t1, Tm.text t1) := by unfold kid1; rw [List.getD, Tm.texts_get ks1 1 t1 ht1]; rfl
  have hc0 := fun d os => Calls.regrown_of (HKD.out 0 0 rfl t0 (0) (grow (redrawn w1 d) os) (HB.out.trans ((below_regrown _ d os).mono HB.out.size)) (cell_regrown b7 d os) ht0)
  have hp0 := HSM.out 0 t0 (0) ht0
  have hc1 := fun d os => Calls.regrown_of (HKD.out 1 1 rfl t1 (0) (grow (redrawn w1 d) os) (HB.out.trans ((below_regrown _ d os).mono HB.out.size)) (cell_regrown b7 d os) ht1)
  have hp1 := HSM.out 1 t1 (0) ht1
  have r2 := cell_regrown b2
  have HT := hid (show Tm.text (Tm.mk 7 u1 n1 (Ty.mk tk1 tn1 tks1) ns1 ks1) = ((((((⟨#[108, 101, 116, 32]⟩ : ByteArray) ++ n1) ++ (⟨#[32, 61, 32]⟩ : ByteArray)) ++ Tm.at (0) t0) ++ (⟨#[32, 105, 110, 32]⟩ : ByteArray)) ++ Tm.at (0) t1) by rw [Tm.text]; unfold tmTxt; simp only [hk0, hk1]; rfl)
  generalize Tm.at (0) t0 = p0 at hc0 hp0 HT
  generalize Tm.at (0) t1 = p1 at hc1 hp1 HT
  have HC0 := hid hc0
  have HC1 := hid hc1
  have le1 : (⟨#[108, 101, 116, 32]⟩ : ByteArray).size = 4 := rfl
  have le2 : (⟨#[32, 61, 32]⟩ : ByteArray).size = 3 := rfl
  have le3 : (⟨#[32, 105, 110, 32]⟩ : ByteArray).size = 4 := rfl
  have ce1 : ((⟨#[108, 101, 116, 32]⟩ : ByteArray) ++ n1).size = 4 + n1.size := by rw [ByteArray.size_append, le1]
  have ce2 : (((⟨#[108, 101, 116, 32]⟩ : ByteArray) ++ n1) ++ (⟨#[32, 61, 32]⟩ : ByteArray)).size = 4 + n1.size + 3 := by rw [ByteArray.size_append, ce1, le2]
  have ce3 : ((((⟨#[108, 101, 116, 32]⟩ : ByteArray) ++ n1) ++ (⟨#[32, 61, 32]⟩ : ByteArray)) ++ p0).size = 4 + n1.size + 3 + p0.size := by rw [ByteArray.size_append, ce2]
  have ce4 : (((((⟨#[108, 101, 116, 32]⟩ : ByteArray) ++ n1) ++ (⟨#[32, 61, 32]⟩ : ByteArray)) ++ p0) ++ (⟨#[32, 105, 110, 32]⟩ : ByteArray)).size = 4 + n1.size + 3 + p0.size + 4 := by rw [ByteArray.size_append, ce3, le3]
  clear hc0 hk0 ht0 hc1 hk1 ht1
  clear b1 b2 b3 b4 b5 b6 b7
  go_wp2_with fail
  refine wp_region_quiet_below (by kernel_rfl) (by kernel_rfl) ?_
  repeat (go_big_quiet_step (first | (with_reducible exact HC0.out _ _) | (with_reducible exact HC1.out _ _)))
  refine wpQuiet_nil ?_
  intro _ hw'
  obtain ⟨⟨dq, osq⟩, hw''⟩ := hw'
  subst hw''
  have HBZ := hid (HB.out.trans ((below_regrown w1 dq osq).mono HB.out.size))
  clear HC0 HC1 r2
  go_wp2_with fail
  go_ret
  exact ret_strB HT.out.symm HBZ.out
end Go.Proofs.YtikhofcjkcbpbaaGreatDoor
/- was: PrIE -/
namespace Go.Proofs.YtikhofcjkcbpbaaGreatDoor
open Go.ChangeShapes Go.WideShapes Go.ChangeAt Go.RowKit Go.BigFrame
open Go.Sort (grow)
set_option linter.unusedVariables false

set_option maxRecDepth 100000 in
set_option maxHeartbeats 8000000 in
theorem impl_body8 (N : Nat) (ih : ImPrW N) (k1 : Int) (u1 : Int) (n1 : ByteArray) (tk1 : Int) (tn1 : ByteArray) (tks1 : List Ty) (ns1 : List ByteArray) (ks1 : List Tm) (atks1 : Option Addr) (ctks1 : Nat) (ans1 : Option Addr) (cns1 : Nat) (aks1 : Option Addr) (cks1 : Nat) (l : Int) (w : World) (hcase : k1 = 8 ∧ ks1.length ≤ 3) (hpw : Pow w) (hN : Tm.bulk (Tm.mk k1 u1 n1 (Ty.mk tk1 tn1 tks1) ns1 ks1) < N + 1) (hM : Tm.bulk (Tm.mk k1 u1 n1 (Ty.mk tk1 tn1 tks1) ns1 ks1) ≤ 1048576) (hg : Tm.good (Tm.mk k1 u1 n1 (Ty.mk tk1 tn1 tks1) ns1 ks1) = true) (hlv : ¬ tmLev k1 u1 < l) (hr : RdS w (Tm.d (Tm.mk k1 u1 n1 (Ty.mk tk1 tn1 tks1) ns1 ks1)) [.int .i64 k1, .int .i64 u1, .string n1, .int .i64 tk1, .string tn1, .slice atks1 tks1.length ctks1, .slice ans1 ns1.length cns1, .slice aks1 ks1.length cks1]) :
    Calls Tryz.prog 25 #[.agg #[.int .i64 k1, .int .i64 u1, .string n1, .int .i64 tk1, .string tn1, .slice atks1 tks1.length ctks1, .slice ans1 ns1.length cns1, .slice aks1 ks1.length cks1], .int .i64 l] w fun e w' => e = .returned (.string (Tm.text (Tm.mk k1 u1 n1 (Ty.mk tk1 tn1 tks1) ns1 ks1))) ∧ Below w.heap.size w w' := by
  have hbk : Tm.bulk (Tm.mk k1 u1 n1 (Ty.mk tk1 tn1 tks1) ns1 ks1) = n1.size + Ty.bulk (Ty.mk tk1 tn1 tks1) + Sr.bulks ns1 + Tm.bulks ks1 := rfl
  obtain ⟨hok, hco, hgs⟩ := Tm.good_parts hg
  have hlu := okTm_lint hok
  have hrt := RdS.subTm_t hr
  obtain ⟨_, ⟨lou, hiu⟩, zn, _, hns, hks⟩ := hr.fTm
  have hlb := Tm.bulks_length ks1
  have hn1 : n1.size ≤ 1048576 := by omega
  have HX0 := hid ((Boxes.nil w).alloc #[.int .i64 k1, .int .i64 u1, .string n1, .int .i64 tk1, .string tn1, .slice atks1 tks1.length ctks1, .slice ans1 ns1.length cns1, .slice aks1 ks1.length cks1] 36 (0, 0))
  have hB := (Below.refl w.heap.size w).alloc (Nat.le_refl _) (.cells #[.int .i64 k1, .int .i64 u1, .string n1, .int .i64 tk1, .string tn1, .slice atks1 tks1.length ctks1, .slice ans1 ns1.length cns1, .slice aks1 ks1.length cks1] 36)
  have HB0 := hid hB
  have HLV := hid (fun W => impl_Level k1 u1 n1 tk1 tn1 tks1 ns1 ks1 atks1 ctks1 ans1 cns1 aks1 cks1 W)
  have HCS := hid hcase
  clear hcase
  have HOK := hid hok
  have HGS := hid hgs
  have HTI := hid (TmsIn.of_rd hks)
  have HNS := hid (StrIn.of_rd hns)
  have HRT := hid hrt
  have HPW := hid hpw
  have HIH := hid ih
  have hNk : Tm.bulks ks1 ≤ N := by omega
  have hMk : Tm.bulks ks1 ≤ 1048576 := by omega
  have HKD := hid (fun (i : Nat) (z : Int) (hz : z = (i : Int)) (t : Tm) (l : Int) (W : World) (hb : Below w.heap.size w W) (h7 : W.cell? ⟨w.heap.size, 7, none⟩ = some (.slice aks1 ks1.length cks1)) (ht : ks1[i]? = some t) => (by rw [hz]; exact impl_kid N ih w.heap.size ks1 _ i t l W (hpw.below hb) hNk hMk hgs h7 ((TmsIn.of_rd hks).below hb) ht : Calls Tryz.prog 51 #[.int .i64 z, .int .i64 l, .pointer (some ⟨w.heap.size, 0, none⟩)] W fun e w' => e = .returned (.string (Tm.at l t)) ∧ Below W.heap.size W w'))
  have HSM := hid (fun (i : Nat) (t : Tm) (l : Int) (ht : ks1[i]? = some t) => Tm.at_small l (Tm.goods_get ks1 i t hgs ht) (by have := Tm.bulk_get ks1 i t ht; omega))
  have HBK := hid hbk
  have HM := hid hM
  obtain ⟨L, hL⟩ : ∃ L, tmLev k1 u1 = L := ⟨_, rfl⟩
  have hLi := tmLev_in k1 u1
  rw [hL] at hlv hLi HLV
  have HL := hid hL
  have glv : decide (L < l) = false := decide_eq_false hlv
  clear hok hgs hco hlu hrt hns hks hr hg ih hpw hB hbk hN hM hL hlv hlb
  have HQ : ∀ W, Below w.heap.size w W → W.heap[w.heap.size]? = some (.cells #[.int .i64 k1, .int .i64 u1, .string n1, .int .i64 tk1, .string tn1, .slice atks1 tks1.length ctks1, .slice ans1 ns1.length cns1, .slice aks1 ks1.length cks1] 36 (0, 0)) → True := fun _ _ _ => trivial
  clear HQ
  go_enter Tryz.func25, Tryz.ntmps25
  go_wp2_with fail
  refine (HLV.out _).mono ?_
  rintro e w1 ⟨rfl, hb⟩
  have HB := hid (HB0.out.trans (hb.mono HB0.out.size))
  have HX1 := hid (HX0.out.below hb)
  have b0 := HX1.out.at 0 0 rfl rfl
  have b1 := HX1.out.at 0 1 rfl rfl
  have b2 := HX1.out.at 0 2 rfl rfl
  have b3 := HX1.out.at 0 3 rfl rfl
  have b4 := HX1.out.at 0 4 rfl rfl
  have b5 := HX1.out.at 0 5 rfl rfl
  have b6 := HX1.out.at 0 6 rfl rfl
  have b7 := HX1.out.at 0 7 rfl rfl
  clear hb HX0
  obtain ⟨rfl, hn⟩ := HCS.out
  have hlen : (Tm.at0s ks1).length = ks1.length := by rw [Tm.at0s, List.length_map, Tm.texts_length]
  have hzz := szs_prn (Tm.texts ks1)
  have hz3 := Tm.texts_le ks1 HGS.out
  have hzs : szs (Tm.at0s ks1) ≤ 67108900 := by have h : szs (Tm.at0s ks1) = szs ((Tm.texts ks1).map (prn 0)) := rfl; omega
  have hzb := brk_size (Tm.at0s ks1)
  have hbb : (brk (Tm.at0s ks1)).size ≤ 67109000 := by omega
  have HT := hid (show Tm.text (Tm.mk 8 u1 n1 (Ty.mk tk1 tn1 tks1) ns1 ks1) = n1 ++ brk (Tm.at0s ks1) from rfl)
  have HAL := hid (fun (W : World) (hb : Below w1.heap.size w1 W) => impl_all N HIH.out ks1 (.slice aks1 ks1.length cks1) W (HPW.out.below (HB.out.trans (hb.mono HB.out.size))) (by omega) hNk hMk HGS.out (HTI.out.below (HB.out.trans (hb.mono HB.out.size))))
  have HLN := hid hlen
  have HZS := hid hzs
  generalize Tm.at0s ks1 = xs at HAL HLN HZS hbb HT
  have u2 : ¬ 9223372036854775807 < n1.size + (brk xs).size := by omega
  clear hlen hzz hz3 hzs hzb
  have hkeep : ∀ V V' : World, Below V.heap.size V V' → (Below w1.heap.size w1 V ∧ V.cell? ⟨w.heap.size, 2, none⟩ = some (.string n1) ∧ V.cell? ⟨w.heap.size, 7, none⟩ = some (.slice aks1 ks1.length cks1)) → (Below w1.heap.size w1 V' ∧ V'.cell? ⟨w.heap.size, 2, none⟩ = some (.string n1) ∧ V'.cell? ⟨w.heap.size, 7, none⟩ = some (.slice aks1 ks1.length cks1)) := fun V V' hb ⟨h, _⟩ =>
    have hb' := h.trans (hb.mono h.size)
    ⟨hb', (hb'.cell (p := ⟨_, 2, none⟩) (World.block_lt_of_cell? _ _ b2)).trans b2, (hb'.cell (p := ⟨_, 7, none⟩) (World.block_lt_of_cell? _ _ b7)).trans b7⟩
  have KEEP := hid hkeep
  clear hkeep
  have hbd : Below w1.heap.size w1 w1.drew := (Below.refl _ _).drew
  go_wp2_with fail
  go_region_held3 (fun V => Below w1.heap.size w1 V ∧ V.cell? ⟨w.heap.size, 2, none⟩ = some (.string n1) ∧ V.cell? ⟨w.heap.size, 7, none⟩ = some (.slice aks1 ks1.length cks1))
    (first | exact KEEP.out _ _ hbq (by assumption) | go_keep)
    (first
      | (go_at_call 54; (with_reducible refine (HAL.out _ (‹Below w1.heap.size w1 _ ∧ _›).1).mono ?_); rintro e V1 ⟨v1, rfl, hs1, hbq⟩)
      | (go_at_call 38; (with_reducible refine (impl_brk (xs := xs) ?_ ?_ ?_).mono ?_); (exact hs1); (have := HLN.out; omega); (have := HZS.out; omega); rintro e V2 ⟨rfl, hbq⟩))
  obtain ⟨hbr, -⟩ := ‹Below w1.heap.size w1 V2 ∧ _›
  have HBZ := hid (HB.out.trans (hbr.mono HB.out.size))
  clear KEEP hbd hbr
  go_wp2_with fail
  go_ret
  exact ret_strB HT.out.symm HBZ.out
end Go.Proofs.YtikhofcjkcbpbaaGreatDoor
/- was: PrIF -/
namespace Go.Proofs.YtikhofcjkcbpbaaGreatDoor
open Go.ChangeShapes Go.WideShapes Go.ChangeAt Go.RowKit Go.BigFrame
open Go.Sort (grow)
set_option linter.unusedVariables false

set_option maxRecDepth 100000 in
set_option maxHeartbeats 8000000 in
theorem impl_body9 (N : Nat) (ih : ImPrW N) (k1 : Int) (u1 : Int) (n1 : ByteArray) (tk1 : Int) (tn1 : ByteArray) (tks1 : List Ty) (ns1 : List ByteArray) (ks1 : List Tm) (atks1 : Option Addr) (ctks1 : Nat) (ans1 : Option Addr) (cns1 : Nat) (aks1 : Option Addr) (cks1 : Nat) (l : Int) (w : World) (hcase : k1 = 9 ∧ 2 ≤ ks1.length ∧ ks1.length ≤ 5) (hpw : Pow w) (hN : Tm.bulk (Tm.mk k1 u1 n1 (Ty.mk tk1 tn1 tks1) ns1 ks1) < N + 1) (hM : Tm.bulk (Tm.mk k1 u1 n1 (Ty.mk tk1 tn1 tks1) ns1 ks1) ≤ 1048576) (hg : Tm.good (Tm.mk k1 u1 n1 (Ty.mk tk1 tn1 tks1) ns1 ks1) = true) (hlv : ¬ tmLev k1 u1 < l) (hr : RdS w (Tm.d (Tm.mk k1 u1 n1 (Ty.mk tk1 tn1 tks1) ns1 ks1)) [.int .i64 k1, .int .i64 u1, .string n1, .int .i64 tk1, .string tn1, .slice atks1 tks1.length ctks1, .slice ans1 ns1.length cns1, .slice aks1 ks1.length cks1]) :
    Calls Tryz.prog 25 #[.agg #[.int .i64 k1, .int .i64 u1, .string n1, .int .i64 tk1, .string tn1, .slice atks1 tks1.length ctks1, .slice ans1 ns1.length cns1, .slice aks1 ks1.length cks1], .int .i64 l] w fun e w' => e = .returned (.string (Tm.text (Tm.mk k1 u1 n1 (Ty.mk tk1 tn1 tks1) ns1 ks1))) ∧ Below w.heap.size w w' := by
  have hbk : Tm.bulk (Tm.mk k1 u1 n1 (Ty.mk tk1 tn1 tks1) ns1 ks1) = n1.size + Ty.bulk (Ty.mk tk1 tn1 tks1) + Sr.bulks ns1 + Tm.bulks ks1 := rfl
  obtain ⟨hok, hco, hgs⟩ := Tm.good_parts hg
  have hlu := okTm_lint hok
  have hrt := RdS.subTm_t hr
  obtain ⟨_, ⟨lou, hiu⟩, zn, _, hns, hks⟩ := hr.fTm
  have hlb := Tm.bulks_length ks1
  have hn1 : n1.size ≤ 1048576 := by omega
  have HX0 := hid ((Boxes.nil w).alloc #[.int .i64 k1, .int .i64 u1, .string n1, .int .i64 tk1, .string tn1, .slice atks1 tks1.length ctks1, .slice ans1 ns1.length cns1, .slice aks1 ks1.length cks1] 36 (0, 0))
  have hB := (Below.refl w.heap.size w).alloc (Nat.le_refl _) (.cells #[.int .i64 k1, .int .i64 u1, .string n1, .int .i64 tk1, .string tn1, .slice atks1 tks1.length ctks1, .slice ans1 ns1.length cns1, .slice aks1 ks1.length cks1] 36)
  have HB0 := hid hB
  have HLV := hid (fun W => impl_Level k1 u1 n1 tk1 tn1 tks1 ns1 ks1 atks1 ctks1 ans1 cns1 aks1 cks1 W)
  have HCS := hid hcase
  clear hcase
  have HOK := hid hok
  have HGS := hid hgs
  have HTI := hid (TmsIn.of_rd hks)
  have HNS := hid (StrIn.of_rd hns)
  have HRT := hid hrt
  have HPW := hid hpw
  have HIH := hid ih
  have hNk : Tm.bulks ks1 ≤ N := by omega
  have hMk : Tm.bulks ks1 ≤ 1048576 := by omega
  have HKD := hid (fun (i : Nat) (z : Int) (hz : z = (i : Int)) (t : Tm) (l : Int) (W : World) (hb : Below w.heap.size w W) (h7 : W.cell? ⟨w.heap.size, 7, none⟩ = some (.slice aks1 ks1.length cks1)) (ht : ks1[i]? = some t) => (by rw [hz]; exact impl_kid N ih w.heap.size ks1 _ i t l W (hpw.below hb) hNk hMk hgs h7 ((TmsIn.of_rd hks).below hb) ht : Calls Tryz.prog 51 #[.int .i64 z, .int .i64 l, .pointer (some ⟨w.heap.size, 0, none⟩)] W fun e w' => e = .returned (.string (Tm.at l t)) ∧ Below W.heap.size W w'))
  have HSM := hid (fun (i : Nat) (t : Tm) (l : Int) (ht : ks1[i]? = some t) => Tm.at_small l (Tm.goods_get ks1 i t hgs ht) (by have := Tm.bulk_get ks1 i t ht; omega))
  have HBK := hid hbk
  have HM := hid hM
  obtain ⟨L, hL⟩ : ∃ L, tmLev k1 u1 = L := ⟨_, rfl⟩
  have hLi := tmLev_in k1 u1
  rw [hL] at hlv hLi HLV
  have HL := hid hL
  have glv : decide (L < l) = false := decide_eq_false hlv
  clear hok hgs hco hlu hrt hns hks hr hg ih hpw hB hbk hN hM hL hlv hlb
  have HQ : ∀ W, Below w.heap.size w W → W.heap[w.heap.size]? = some (.cells #[.int .i64 k1, .int .i64 u1, .string n1, .int .i64 tk1, .string tn1, .slice atks1 tks1.length ctks1, .slice ans1 ns1.length cns1, .slice aks1 ks1.length cks1] 36 (0, 0)) → True := fun _ _ _ => trivial
  clear HQ
  go_enter Tryz.func25, Tryz.ntmps25
  go_wp2_with fail
  refine (HLV.out _).mono ?_
  rintro e w1 ⟨rfl, hb⟩
  have HB := hid (HB0.out.trans (hb.mono HB0.out.size))
  have HX1 := hid (HX0.out.below hb)
  have b0 := HX1.out.at 0 0 rfl rfl
  have b1 := HX1.out.at 0 1 rfl rfl
  have b2 := HX1.out.at 0 2 rfl rfl
  have b3 := HX1.out.at 0 3 rfl rfl
  have b4 := HX1.out.at 0 4 rfl rfl
  have b5 := HX1.out.at 0 5 rfl rfl
  have b6 := HX1.out.at 0 6 rfl rfl
  have b7 := HX1.out.at 0 7 rfl rfl
  clear hb HX0
  obtain ⟨rfl, hn, hn5⟩ := HCS.out
  obtain ⟨t0, kr, hks1⟩ : ∃ t0 kr, ks1 = t0 :: kr := by
    cases ks1 with
    | nil => simp at hn
    | cons a r => exact ⟨a, r, rfl⟩
  subst hks1
  obtain ⟨ax, cx, he, hcx, hcm, hall⟩ := HTI.out
  simp only [Value.slice.injEq, true_and] at he
  obtain ⟨rfl, rfl⟩ := he
  obtain ⟨b, o, rfl, hbl, -⟩ := hall (by simp)
  simp only [List.length_cons] at hn hn5 hcx
  have hkl : kr.length ≤ 4 := by omega
  have hkl1 : 1 ≤ kr.length := by omega
  obtain ⟨n7, hn7⟩ : ∃ n, (t0 :: kr).length = n := ⟨_, rfl⟩
  have hl7 : kr.length = n7 - 1 := by rw [← hn7]; simp
  have hi7 : (1 : Int) ≤ (n7 : Int) := by rw [← hn7]; simp; omega
  have hj7 : (n7 : Int) ≤ (cks1 : Int) := by rw [← hn7]; simp only [List.length_cons]; omega
  have nc7 : ¬ cks1 = 1 := by omega
  have HTD := hid (show TmsIn w kr (.slice (some ⟨b, o + 8, none⟩) (n7 - 1) (cks1 - 1)) by rw [← hl7]; exact TmsIn.drop (c := cks1) HTI.out)
  have hgk : Tm.goods kr = true := by have h := HGS.out; simp only [Tm.goods, Bool.and_eq_true] at h; exact h.2
  have hbks : Tm.bulks (t0 :: kr) = 1 + Tm.bulk t0 + Tm.bulks kr := rfl
  have hc0 := fun W (hb : Below w1.heap.size w1 W) (h7 : W.cell? ⟨w.heap.size, 7, none⟩ = some (.slice (some ⟨b, o, none⟩) n7 cks1)) => HKD.out 0 0 rfl t0 0 W (HB.out.trans (hb.mono HB.out.size)) (by rw [hn7]; exact h7) rfl
  have hp0 := HSM.out 0 t0 0 rfl
  have hlen : (Tm.at0s kr).length = kr.length := by rw [Tm.at0s, List.length_map, Tm.texts_length]
  have hzz := szs_prn (Tm.texts kr)
  have hz3 := Tm.texts_le kr hgk
  have hzs : szs (Tm.at0s kr) ≤ 67108900 := by have h : szs (Tm.at0s kr) = szs ((Tm.texts kr).map (prn 0)) := rfl; omega
  have hjb := joinS_size semi (Tm.at0s kr)
  have hse : semi.size = 2 := rfl
  have hbb : (joinS semi (Tm.at0s kr)).size ≤ 67109000 := by rw [hse] at hjb; omega
  have HT := hid (show Tm.text (Tm.mk 9 u1 n1 (Ty.mk tk1 tn1 tks1) ns1 (t0 :: kr)) = (((⟨#[109, 97, 116, 99, 104, 32]⟩ ++ Tm.at 0 t0) ++ ⟨#[32, 123, 32]⟩) ++ joinS semi (Tm.at0s kr)) ++ ⟨#[32, 125]⟩ by rw [Tm.text, Tm.texts_cons]; rfl)
  have HAL := hid (fun (W : World) (hb : Below w1.heap.size w1 W) => impl_all N HIH.out kr (.slice (some ⟨b, o + 8, none⟩) (n7 - 1) (cks1 - 1)) W (HPW.out.below (HB.out.trans (hb.mono HB.out.size))) (by omega) (by omega) (by omega) hgk (HTD.out.below (HB.out.trans (hb.mono HB.out.size))))
  have HLN := hid hlen
  have HZS := hid hzs
  have HJN := hid (fun (W : World) (v : Value) (h : StrIn W (Tm.at0s kr) v) => join_in (sep := semi) h (by omega) (by decide) (by omega))
  generalize Tm.at0s kr = xs at HAL HLN HZS hbb HT HJN
  generalize joinS semi xs = J at HJN hbb HT
  generalize Tm.at 0 t0 = p0 at hc0 hp0 HT
  have HC0 := hid hc0
  have f1 : (⟨#[109, 97, 116, 99, 104, 32]⟩ : ByteArray).size = 6 := rfl
  have f2 : ((⟨#[109, 97, 116, 99, 104, 32]⟩ : ByteArray) ++ p0).size = 6 + p0.size := by rw [ByteArray.size_append, f1]
  have f3 : (⟨#[32, 123, 32]⟩ : ByteArray).size = 3 := rfl
  have f4 : (((⟨#[109, 97, 116, 99, 104, 32]⟩ : ByteArray) ++ p0) ++ (⟨#[32, 123, 32]⟩ : ByteArray)).size = 6 + p0.size + 3 := by rw [ByteArray.size_append, f2, f3]
  have f5 : ((((⟨#[109, 97, 116, 99, 104, 32]⟩ : ByteArray) ++ p0) ++ (⟨#[32, 123, 32]⟩ : ByteArray)) ++ J).size = 6 + p0.size + 3 + J.size := by rw [ByteArray.size_append, f4]
  have f6 : (⟨#[32, 125]⟩ : ByteArray).size = 2 := rfl
  have u2 : ¬ 9223372036854775807 < 6 + p0.size := by omega
  have u3 : ¬ 9223372036854775807 < 6 + p0.size + 3 := by omega
  have u4 : ¬ 9223372036854775807 < 6 + p0.size + 3 + J.size := by omega
  have u5 : ¬ 9223372036854775807 < 6 + p0.size + 3 + J.size + 2 := by omega
  have HCX := hid hcx
  rw [hn7] at b7
  have HN7 := hid hn7
  have HL7 := hid hl7
  have HKL := hid hkl
  have HKL1 := hid hkl1
  clear hlen hzz hz3 hzs hjb hse hc0 hgk hbks hn hn5 hall hcx hn7 hl7 hkl hkl1
  have hkeep : ∀ V V' : World, Below V.heap.size V V' → (Below w1.heap.size w1 V ∧ V.cell? ⟨w.heap.size, 7, none⟩ = some (.slice (some ⟨b, o, none⟩) n7 cks1)) → (Below w1.heap.size w1 V' ∧ V'.cell? ⟨w.heap.size, 7, none⟩ = some (.slice (some ⟨b, o, none⟩) n7 cks1)) := fun V V' hb ⟨h, _⟩ =>
    have hb' := h.trans (hb.mono h.size)
    ⟨hb', (hb'.cell (p := ⟨_, 7, none⟩) (World.block_lt_of_cell? _ _ b7)).trans b7⟩
  have KEEP := hid hkeep
  clear hkeep
  have hbd : Below w1.heap.size w1 w1.drew := (Below.refl _ _).drew
  go_wp2_with fail
  go_region_held3 (fun V => Below w1.heap.size w1 V ∧ V.cell? ⟨w.heap.size, 7, none⟩ = some (.slice (some ⟨b, o, none⟩) n7 cks1))
    (first | exact KEEP.out _ _ hbq (by assumption) | go_keep)
    (first
      | (go_at_call 51; (with_reducible refine (HC0.out _ (‹Below w1.heap.size w1 _ ∧ _›).1 (‹Below w1.heap.size w1 _ ∧ _›).2).mono ?_); rintro e V0 ⟨rfl, hbq⟩)
      | (go_at_call 54; (with_reducible refine (HAL.out _ (‹Below w1.heap.size w1 _ ∧ _›).1).mono ?_); rintro e V1 ⟨v1, rfl, hs1, hbq⟩)
      | (go_at_call 40; (with_reducible refine (HJN.out _ _ hs1).mono ?_); rintro e V2 ⟨rfl, hbq⟩))
  obtain ⟨hbr, -⟩ := ‹Below w1.heap.size w1 V2 ∧ _›
  have HBZ := hid (HB.out.trans (hbr.mono HB.out.size))
  clear KEEP hbd hbr
  go_wp2_with fail
  go_ret
  exact ret_strB HT.out.symm HBZ.out
end Go.Proofs.YtikhofcjkcbpbaaGreatDoor
/- was: PrIG -/
namespace Go.Proofs.YtikhofcjkcbpbaaGreatDoor
open Go.ChangeShapes Go.WideShapes Go.ChangeAt Go.RowKit Go.BigFrame
open Go.Sort (grow)
set_option linter.unusedVariables false

set_option maxRecDepth 100000 in
set_option maxHeartbeats 8000000 in
theorem impl_body10 (N : Nat) (ih : ImPrW N) (k1 : Int) (u1 : Int) (n1 : ByteArray) (tk1 : Int) (tn1 : ByteArray) (tks1 : List Ty) (ns1 : List ByteArray) (ks1 : List Tm) (atks1 : Option Addr) (ctks1 : Nat) (ans1 : Option Addr) (cns1 : Nat) (aks1 : Option Addr) (cks1 : Nat) (l : Int) (w : World) (hcase : k1 = 10 ∧ ks1.length = 1 ∧ ns1.length ≤ 3) (hpw : Pow w) (hN : Tm.bulk (Tm.mk k1 u1 n1 (Ty.mk tk1 tn1 tks1) ns1 ks1) < N + 1) (hM : Tm.bulk (Tm.mk k1 u1 n1 (Ty.mk tk1 tn1 tks1) ns1 ks1) ≤ 1048576) (hg : Tm.good (Tm.mk k1 u1 n1 (Ty.mk tk1 tn1 tks1) ns1 ks1) = true) (hlv : ¬ tmLev k1 u1 < l) (hr : RdS w (Tm.d (Tm.mk k1 u1 n1 (Ty.mk tk1 tn1 tks1) ns1 ks1)) [.int .i64 k1, .int .i64 u1, .string n1, .int .i64 tk1, .string tn1, .slice atks1 tks1.length ctks1, .slice ans1 ns1.length cns1, .slice aks1 ks1.length cks1]) :
    Calls Tryz.prog 25 #[.agg #[.int .i64 k1, .int .i64 u1, .string n1, .int .i64 tk1, .string tn1, .slice atks1 tks1.length ctks1, .slice ans1 ns1.length cns1, .slice aks1 ks1.length cks1], .int .i64 l] w fun e w' => e = .returned (.string (Tm.text (Tm.mk k1 u1 n1 (Ty.mk tk1 tn1 tks1) ns1 ks1))) ∧ Below w.heap.size w w' := by
  have hbk : Tm.bulk (Tm.mk k1 u1 n1 (Ty.mk tk1 tn1 tks1) ns1 ks1) = n1.size + Ty.bulk (Ty.mk tk1 tn1 tks1) + Sr.bulks ns1 + Tm.bulks ks1 := rfl
  obtain ⟨hok, hco, hgs⟩ := Tm.good_parts hg
  have hlu := okTm_lint hok
  have hrt := RdS.subTm_t hr
  obtain ⟨_, ⟨lou, hiu⟩, zn, _, hns, hks⟩ := hr.fTm
  have hlb := Tm.bulks_length ks1
  have hn1 : n1.size ≤ 1048576 := by omega
  have HX0 := hid ((Boxes.nil w).alloc #[.int .i64 k1, .int .i64 u1, .string n1, .int .i64 tk1, .string tn1, .slice atks1 tks1.length ctks1, .slice ans1 ns1.length cns1, .slice aks1 ks1.length cks1] 36 (0, 0))
  have hB := (Below.refl w.heap.size w).alloc (Nat.le_refl _) (.cells #[.int .i64 k1, .int .i64 u1, .string n1, .int .i64 tk1, .string tn1, .slice atks1 tks1.length ctks1, .slice ans1 ns1.length cns1, .slice aks1 ks1.length cks1] 36)
  have HB0 := hid hB
  have HLV := hid (fun W => impl_Level k1 u1 n1 tk1 tn1 tks1 ns1 ks1 atks1 ctks1 ans1 cns1 aks1 cks1 W)
  have HCS := hid hcase
  clear hcase
  have HOK := hid hok
  have HGS := hid hgs
  have HTI := hid (TmsIn.of_rd hks)
  have HNS := hid (StrIn.of_rd hns)
  have HRT := hid hrt
  have HPW := hid hpw
  have HIH := hid ih
  have hNk : Tm.bulks ks1 ≤ N := by omega
  have hMk : Tm.bulks ks1 ≤ 1048576 := by omega
  have HKD := hid (fun (i : Nat) (z : Int) (hz : z = (i : Int)) (t : Tm) (l : Int) (W : World) (hb : Below w.heap.size w W) (h7 : W.cell? ⟨w.heap.size, 7, none⟩ = some (.slice aks1 ks1.length cks1)) (ht : ks1[i]? = some t) => (by rw [hz]; exact impl_kid N ih w.heap.size ks1 _ i t l W (hpw.below hb) hNk hMk hgs h7 ((TmsIn.of_rd hks).below hb) ht : Calls Tryz.prog 51 #[.int .i64 z, .int .i64 l, .pointer (some ⟨w.heap.size, 0, none⟩)] W fun e w' => e = .returned (.string (Tm.at l t)) ∧ Below W.heap.size W w'))
  have HSM := hid (fun (i : Nat) (t : Tm) (l : Int) (ht : ks1[i]? = some t) => Tm.at_small l (Tm.goods_get ks1 i t hgs ht) (by have := Tm.bulk_get ks1 i t ht; omega))
  have HBK := hid hbk
  have HM := hid hM
  obtain ⟨L, hL⟩ : ∃ L, tmLev k1 u1 = L := ⟨_, rfl⟩
  have hLi := tmLev_in k1 u1
  rw [hL] at hlv hLi HLV
  have HL := hid hL
  have glv : decide (L < l) = false := decide_eq_false hlv
  clear hok hgs hco hlu hrt hns hks hr hg ih hpw hB hbk hN hM hL hlv hlb
  have HQ : ∀ W, Below w.heap.size w W → W.heap[w.heap.size]? = some (.cells #[.int .i64 k1, .int .i64 u1, .string n1, .int .i64 tk1, .string tn1, .slice atks1 tks1.length ctks1, .slice ans1 ns1.length cns1, .slice aks1 ks1.length cks1] 36 (0, 0)) → True := fun _ _ _ => trivial
  clear HQ
  go_enter Tryz.func25, Tryz.ntmps25
  go_wp2_with fail
  refine (HLV.out _).mono ?_
  rintro e w1 ⟨rfl, hb⟩
  have HB := hid (HB0.out.trans (hb.mono HB0.out.size))
  have HX1 := hid (HX0.out.below hb)
  have b0 := HX1.out.at 0 0 rfl rfl
  have b1 := HX1.out.at 0 1 rfl rfl
  have b2 := HX1.out.at 0 2 rfl rfl
  have b3 := HX1.out.at 0 3 rfl rfl
  have b4 := HX1.out.at 0 4 rfl rfl
  have b5 := HX1.out.at 0 5 rfl rfl
  have b6 := HX1.out.at 0 6 rfl rfl
  have b7 := HX1.out.at 0 7 rfl rfl
  clear hb HX0
  obtain ⟨rfl, hn, hn3⟩ := HCS.out
  have HN := hid hn
  clear hn
  obtain ⟨t0, ht0⟩ : ∃ t, ks1[0]? = some t := ⟨_, List.getElem?_eq_getElem (by have := HN.out; omega)⟩
  have hk0 : kid0 (Tm.texts ks1) = (Tm.lev t0, Tm.text t0) := by unfold kid0; rw [List.getD, Tm.texts_get ks1 0 t0 ht0]; rfl
  have hc0 := fun d os => Calls.regrown_of (HKD.out 0 0 rfl t0 (0) (grow (redrawn w1 d) os) (HB.out.trans ((below_regrown _ d os).mono HB.out.size)) (cell_regrown b7 d os) ht0)
  have hp0 := HSM.out 0 t0 (0) ht0
  have hzn := szs_names ns1
  have hbz := brk_size ns1
  have hbb : (brk ns1).size ≤ 4194304 := by have := HBK.out; have := HM.out; omega
  have hct := fun d os => Calls.regrown_of (impl_brk (w := grow (redrawn w1 d) os) (HNS.out.below (HB.out.trans ((below_regrown _ d os).mono HB.out.size))) (by omega) (by have := HBK.out; have := HM.out; omega))
  have r2 := cell_regrown b2
  have r6 := cell_regrown b6
  have HT := hid (show Tm.text (Tm.mk 10 u1 n1 (Ty.mk tk1 tn1 tks1) ns1 ks1) = ((n1 ++ brk ns1) ++ ⟨#[32, 45, 62, 32]⟩) ++ Tm.at 0 t0 by rw [Tm.text]; unfold tmTxt; simp only [hk0]; rfl)
  generalize Tm.at 0 t0 = p0 at hc0 hp0 HT
  generalize brk ns1 = z at hct hbb HT hbz
  have HC0 := hid hc0
  have HCT := hid hct
  have g3 : (⟨#[32, 45, 62, 32]⟩ : ByteArray).size = 4 := rfl
  have g4 : (n1 ++ z).size = n1.size + z.size := ByteArray.size_append
  have g5 : ((n1 ++ z) ++ (⟨#[32, 45, 62, 32]⟩ : ByteArray)).size = n1.size + z.size + 4 := by rw [ByteArray.size_append, g4, g3]
  clear hc0 hk0 ht0 hct hzn hbz
  clear b1 b2 b3 b4 b5 b6 b7
  go_wp2_with fail
  refine wp_region_quiet_below (by kernel_rfl) (by kernel_rfl) ?_
  repeat (go_big_quiet_step (first | (with_reducible exact HC0.out _ _) | (with_reducible exact HCT.out _ _)))
  refine wpQuiet_nil ?_
  intro _ hw'
  obtain ⟨⟨dq, osq⟩, hw''⟩ := hw'
  subst hw''
  have HBZ := hid (HB.out.trans ((below_regrown w1 dq osq).mono HB.out.size))
  clear HC0 HCT r2 r6
  go_wp2_with fail
  go_ret
  exact ret_strB HT.out.symm HBZ.out
set_option maxRecDepth 100000 in
set_option maxHeartbeats 8000000 in
theorem impl_body11 (N : Nat) (ih : ImPrW N) (k1 : Int) (u1 : Int) (n1 : ByteArray) (tk1 : Int) (tn1 : ByteArray) (tks1 : List Ty) (ns1 : List ByteArray) (ks1 : List Tm) (atks1 : Option Addr) (ctks1 : Nat) (ans1 : Option Addr) (cns1 : Nat) (aks1 : Option Addr) (cks1 : Nat) (l : Int) (w : World) (hcase : k1 = 11 ∧ ks1.length = 3) (hpw : Pow w) (hN : Tm.bulk (Tm.mk k1 u1 n1 (Ty.mk tk1 tn1 tks1) ns1 ks1) < N + 1) (hM : Tm.bulk (Tm.mk k1 u1 n1 (Ty.mk tk1 tn1 tks1) ns1 ks1) ≤ 1048576) (hg : Tm.good (Tm.mk k1 u1 n1 (Ty.mk tk1 tn1 tks1) ns1 ks1) = true) (hlv : ¬ tmLev k1 u1 < l) (hr : RdS w (Tm.d (Tm.mk k1 u1 n1 (Ty.mk tk1 tn1 tks1) ns1 ks1)) [.int .i64 k1, .int .i64 u1, .string n1, .int .i64 tk1, .string tn1, .slice atks1 tks1.length ctks1, .slice ans1 ns1.length cns1, .slice aks1 ks1.length cks1]) :
    Calls Tryz.prog 25 #[.agg #[.int .i64 k1, .int .i64 u1, .string n1, .int .i64 tk1, .string tn1, .slice atks1 tks1.length ctks1, .slice ans1 ns1.length cns1, .slice aks1 ks1.length cks1], .int .i64 l] w fun e w' => e = .returned (.string (Tm.text (Tm.mk k1 u1 n1 (Ty.mk tk1 tn1 tks1) ns1 ks1))) ∧ Below w.heap.size w w' := by
  have hbk : Tm.bulk (Tm.mk k1 u1 n1 (Ty.mk tk1 tn1 tks1) ns1 ks1) = n1.size + Ty.bulk (Ty.mk tk1 tn1 tks1) + Sr.bulks ns1 + Tm.bulks ks1 := rfl
  obtain ⟨hok, hco, hgs⟩ := Tm.good_parts hg
  have hlu := okTm_lint hok
  have hrt := RdS.subTm_t hr
  obtain ⟨_, ⟨lou, hiu⟩, zn, _, hns, hks⟩ := hr.fTm
  have hlb := Tm.bulks_length ks1
  have hn1 : n1.size ≤ 1048576 := by omega
  have HX0 := hid ((Boxes.nil w).alloc #[.int .i64 k1, .int .i64 u1, .string n1, .int .i64 tk1, .string tn1, .slice atks1 tks1.length ctks1, .slice ans1 ns1.length cns1, .slice aks1 ks1.length cks1] 36 (0, 0))
  have hB := (Below.refl w.heap.size w).alloc (Nat.le_refl _) (.cells #[.int .i64 k1, .int .i64 u1, .string n1, .int .i64 tk1, .string tn1, .slice atks1 tks1.length ctks1, .slice ans1 ns1.length cns1, .slice aks1 ks1.length cks1] 36)
  have HB0 := hid hB
  have HLV := hid (fun W => impl_Level k1 u1 n1 tk1 tn1 tks1 ns1 ks1 atks1 ctks1 ans1 cns1 aks1 cks1 W)
  have HCS := hid hcase
  clear hcase
  have HOK := hid hok
  have HGS := hid hgs
  have HTI := hid (TmsIn.of_rd hks)
  have HNS := hid (StrIn.of_rd hns)
  have HRT := hid hrt
  have HPW := hid hpw
  have HIH := hid ih
  have hNk : Tm.bulks ks1 ≤ N := by omega
  have hMk : Tm.bulks ks1 ≤ 1048576 := by omega
  have HKD := hid (fun (i : Nat) (z : Int) (hz : z = (i : Int)) (t : Tm) (l : Int) (W : World) (hb : Below w.heap.size w W) (h7 : W.cell? ⟨w.heap.size, 7, none⟩ = some (.slice aks1 ks1.length cks1)) (ht : ks1[i]? = some t) => (by rw [hz]; exact impl_kid N ih w.heap.size ks1 _ i t l W (hpw.below hb) hNk hMk hgs h7 ((TmsIn.of_rd hks).below hb) ht : Calls Tryz.prog 51 #[.int .i64 z, .int .i64 l, .pointer (some ⟨w.heap.size, 0, none⟩)] W fun e w' => e = .returned (.string (Tm.at l t)) ∧ Below W.heap.size W w'))
  have HSM := hid (fun (i : Nat) (t : Tm) (l : Int) (ht : ks1[i]? = some t) => Tm.at_small l (Tm.goods_get ks1 i t hgs ht) (by have := Tm.bulk_get ks1 i t ht; omega))
  have HBK := hid hbk
  have HM := hid hM
  obtain ⟨L, hL⟩ : ∃ L, tmLev k1 u1 = L := ⟨_, rfl⟩
  have hLi := tmLev_in k1 u1
  rw [hL] at hlv hLi HLV
  have HL := hid hL
  have glv : decide (L < l) = false := decide_eq_false hlv
  clear hok hgs hco hlu hrt hns hks hr hg ih hpw hB hbk hN hM hL hlv hlb
  have HQ : ∀ W, Below w.heap.size w W → W.heap[w.heap.size]? = some (.cells #[.int .i64 k1, .int .i64 u1, .string n1, .int .i64 tk1, .string tn1, .slice atks1 tks1.length ctks1, .slice ans1 ns1.length cns1, .slice aks1 ks1.length cks1] 36 (0, 0)) → True := fun _ _ _ => trivial
  clear HQ
  go_enter Tryz.func25, Tryz.ntmps25
  go_wp2_with fail
  refine (HLV.out _).mono ?_
  rintro e w1 ⟨rfl, hb⟩
  have HB := hid (HB0.out.trans (hb.mono HB0.out.size))
  have HX1 := hid (HX0.out.below hb)
  have b0 := HX1.out.at 0 0 rfl rfl
  have b1 := HX1.out.at 0 1 rfl rfl
  have b2 := HX1.out.at 0 2 rfl rfl
  have b3 := HX1.out.at 0 3 rfl rfl
  have b4 := HX1.out.at 0 4 rfl rfl
  have b5 := HX1.out.at 0 5 rfl rfl
  have b6 := HX1.out.at 0 6 rfl rfl
  have b7 := HX1.out.at 0 7 rfl rfl
  clear hb HX0
  obtain ⟨rfl, hn⟩ := HCS.out
  have HN := hid hn
  clear hn
  obtain ⟨t0, ht0⟩ : ∃ t, ks1[0]? = some t := ⟨_, List.getElem?_eq_getElem (by have := HN.out; omega)⟩
  obtain ⟨t1, ht1⟩ : ∃ t, ks1[1]? = some t := ⟨_, List.getElem?_eq_getElem (by have := HN.out; omega)⟩
  obtain ⟨t2, ht2⟩ : ∃ t, ks1[2]? = some t := ⟨_, List.getElem?_eq_getElem (by have := HN.out; omega)⟩
  have hk0 : kid0 (Tm.texts ks1) = (Tm.lev t0, Tm.text t0) := by unfold kid0; rw [List.getD, Tm.texts_get ks1 0 t0 ht0]; rfl
  have hk1 : kid1 (Tm.texts ks1) = (Tm.lev t1, Tm.text t1) := by unfold kid1; rw [List.getD, Tm.texts_get ks1 1 t1 ht1]; rfl
  have hk2 : kid2 (Tm.texts ks1) = (Tm.lev t2, Tm.text t2) := by unfold kid2; rw [List.getD, Tm.texts_get ks1 2 t2 ht2]; rfl
  have hc0 := fun W (hb : Below w1.heap.size w1 W) => HKD.out 0 0 rfl t0 (0) W (HB.out.trans (hb.mono HB.out.size)) ((hb.cell (p := ⟨w.heap.size, 7, none⟩) (World.block_lt_of_cell? _ _ b7)).trans b7) ht0
  have hp0 := HSM.out 0 t0 (0) ht0
  have hc1 := fun W (hb : Below w1.heap.size w1 W) => HKD.out 1 1 rfl t1 (0) W (HB.out.trans (hb.mono HB.out.size)) ((hb.cell (p := ⟨w.heap.size, 7, none⟩) (World.block_lt_of_cell? _ _ b7)).trans b7) ht1
  have hp1 := HSM.out 1 t1 (0) ht1
  have hc2 := fun W (hb : Below w1.heap.size w1 W) => HKD.out 2 2 rfl t2 (0) W (HB.out.trans (hb.mono HB.out.size)) ((hb.cell (p := ⟨w.heap.size, 7, none⟩) (World.block_lt_of_cell? _ _ b7)).trans b7) ht2
  have hp2 := HSM.out 2 t2 (0) ht2
  have HT := hid (show Tm.text (Tm.mk 11 u1 n1 (Ty.mk tk1 tn1 tks1) ns1 ks1) = ((((((⟨#[105, 102, 32]⟩ : ByteArray) ++ Tm.at (0) t0) ++ (⟨#[32, 116, 104, 101, 110, 32]⟩ : ByteArray)) ++ Tm.at (0) t1) ++ (⟨#[32, 101, 108, 115, 101, 32]⟩ : ByteArray)) ++ Tm.at (0) t2) by rw [Tm.text]; unfold tmTxt; simp only [hk0, hk1, hk2]; rfl)
  generalize Tm.at (0) t0 = p0 at hc0 hp0 HT
  generalize Tm.at (0) t1 = p1 at hc1 hp1 HT
  generalize Tm.at (0) t2 = p2 at hc2 hp2 HT
  have HC0 := hid hc0
  have HC1 := hid hc1
  have HC2 := hid hc2
  have le1 : (⟨#[105, 102, 32]⟩ : ByteArray).size = 3 := rfl
  have le2 : (⟨#[32, 116, 104, 101, 110, 32]⟩ : ByteArray).size = 6 := rfl
  have le3 : (⟨#[32, 101, 108, 115, 101, 32]⟩ : ByteArray).size = 6 := rfl
  have ce1 : ((⟨#[105, 102, 32]⟩ : ByteArray) ++ p0).size = 3 + p0.size := by rw [ByteArray.size_append, le1]
  have ce2 : (((⟨#[105, 102, 32]⟩ : ByteArray) ++ p0) ++ (⟨#[32, 116, 104, 101, 110, 32]⟩ : ByteArray)).size = 3 + p0.size + 6 := by rw [ByteArray.size_append, ce1, le2]
  have ce3 : ((((⟨#[105, 102, 32]⟩ : ByteArray) ++ p0) ++ (⟨#[32, 116, 104, 101, 110, 32]⟩ : ByteArray)) ++ p1).size = 3 + p0.size + 6 + p1.size := by rw [ByteArray.size_append, ce2]
  have ce4 : (((((⟨#[105, 102, 32]⟩ : ByteArray) ++ p0) ++ (⟨#[32, 116, 104, 101, 110, 32]⟩ : ByteArray)) ++ p1) ++ (⟨#[32, 101, 108, 115, 101, 32]⟩ : ByteArray)).size = 3 + p0.size + 6 + p1.size + 6 := by rw [ByteArray.size_append, ce3, le3]
  clear hc0 hk0 ht0 hc1 hk1 ht1 hc2 hk2 ht2
  go_wp2_with fail
  refine (HC0.out _ (Below.refl _ _)).mono ?_
  rintro e v0 ⟨rfl, hb0⟩
  have HV1 := hid ((Below.refl w1.heap.size w1).trans (hb0.mono (Below.refl w1.heap.size w1).size))
  clear hb0
  go_wp2_with fail
  refine (HC1.out _ HV1.out).mono ?_
  rintro e v1 ⟨rfl, hb1⟩
  have HV2 := hid (HV1.out.trans (hb1.mono HV1.out.size))
  clear hb1
  go_wp2_with fail
  refine (HC2.out _ HV2.out).mono ?_
  rintro e v2 ⟨rfl, hb2⟩
  have HV3 := hid (HV2.out.trans (hb2.mono HV2.out.size))
  clear hb2
  have HBZ := hid (HB.out.trans (HV3.out.mono HB.out.size))
  go_wp2_with fail
  go_ret
  exact ret_strB HT.out.symm HBZ.out
end Go.Proofs.YtikhofcjkcbpbaaGreatDoor
/- was: PrK -/
namespace Go.Proofs.YtikhofcjkcbpbaaGreatDoor
open Go.ChangeShapes Go.WideShapes Go.ChangeAt Go.RowKit Go.BigFrame
open Go.Sort (grow)
set_option linter.unusedVariables false

theorem impl_body (N : Nat) (ih : ImPrW N) (k1 : Int) (u1 : Int) (n1 : ByteArray) (tk1 : Int) (tn1 : ByteArray) (tks1 : List Ty) (ns1 : List ByteArray) (ks1 : List Tm) (atks1 : Option Addr) (ctks1 : Nat) (ans1 : Option Addr) (cns1 : Nat) (aks1 : Option Addr) (cks1 : Nat) (l : Int) (w : World) (hpw : Pow w) (hN : Tm.bulk (Tm.mk k1 u1 n1 (Ty.mk tk1 tn1 tks1) ns1 ks1) < N + 1) (hM : Tm.bulk (Tm.mk k1 u1 n1 (Ty.mk tk1 tn1 tks1) ns1 ks1) ≤ 1048576) (hg : Tm.good (Tm.mk k1 u1 n1 (Ty.mk tk1 tn1 tks1) ns1 ks1) = true) (hlv : ¬ tmLev k1 u1 < l) (hr : RdS w (Tm.d (Tm.mk k1 u1 n1 (Ty.mk tk1 tn1 tks1) ns1 ks1)) [.int .i64 k1, .int .i64 u1, .string n1, .int .i64 tk1, .string tn1, .slice atks1 tks1.length ctks1, .slice ans1 ns1.length cns1, .slice aks1 ks1.length cks1]) :
    Calls Tryz.prog 25 #[.agg #[.int .i64 k1, .int .i64 u1, .string n1, .int .i64 tk1, .string tn1, .slice atks1 tks1.length ctks1, .slice ans1 ns1.length cns1, .slice aks1 ks1.length cks1], .int .i64 l] w fun e w' => e = .returned (.string (Tm.text (Tm.mk k1 u1 n1 (Ty.mk tk1 tn1 tks1) ns1 ks1))) ∧ Below w.heap.size w w' := by
  obtain ⟨hok, -, -⟩ := Tm.good_parts hg
  rcases okTm_cases hok with ⟨h, hn, _⟩ | ⟨h, hn⟩ | ⟨h, hn⟩ | ⟨h, hn, hty⟩ | ⟨h, hn⟩ | ⟨h, hn⟩ | ⟨h, hn⟩ | ⟨h, hn, _⟩ | ⟨h, hn, hn5⟩ | ⟨h, hn, hn3, _⟩ | ⟨h, hn⟩
  · exact impl_body1 N ih k1 u1 n1 tk1 tn1 tks1 ns1 ks1 atks1 ctks1 ans1 cns1 aks1 cks1 l w ⟨h, hn⟩ hpw hN hM hg hlv hr
  · exact impl_body2 N ih k1 u1 n1 tk1 tn1 tks1 ns1 ks1 atks1 ctks1 ans1 cns1 aks1 cks1 l w ⟨h, hn⟩ hpw hN hM hg hlv hr
  · exact impl_body3 N ih k1 u1 n1 tk1 tn1 tks1 ns1 ks1 atks1 ctks1 ans1 cns1 aks1 cks1 l w ⟨h, hn⟩ hpw hN hM hg hlv hr
  · exact impl_body4 N ih k1 u1 n1 tk1 tn1 tks1 ns1 ks1 atks1 ctks1 ans1 cns1 aks1 cks1 l w ⟨h, hn, hty⟩ hpw hN hM hg hlv hr
  · exact impl_body5 N ih k1 u1 n1 tk1 tn1 tks1 ns1 ks1 atks1 ctks1 ans1 cns1 aks1 cks1 l w ⟨h, hn⟩ hpw hN hM hg hlv hr
  · exact impl_body6 N ih k1 u1 n1 tk1 tn1 tks1 ns1 ks1 atks1 ctks1 ans1 cns1 aks1 cks1 l w ⟨h, hn⟩ hpw hN hM hg hlv hr
  · exact impl_body7 N ih k1 u1 n1 tk1 tn1 tks1 ns1 ks1 atks1 ctks1 ans1 cns1 aks1 cks1 l w ⟨h, hn⟩ hpw hN hM hg hlv hr
  · exact impl_body8 N ih k1 u1 n1 tk1 tn1 tks1 ns1 ks1 atks1 ctks1 ans1 cns1 aks1 cks1 l w ⟨h, hn⟩ hpw hN hM hg hlv hr
  · exact impl_body9 N ih k1 u1 n1 tk1 tn1 tks1 ns1 ks1 atks1 ctks1 ans1 cns1 aks1 cks1 l w ⟨h, hn, hn5⟩ hpw hN hM hg hlv hr
  · exact impl_body10 N ih k1 u1 n1 tk1 tn1 tks1 ns1 ks1 atks1 ctks1 ans1 cns1 aks1 cks1 l w ⟨h, hn, hn3⟩ hpw hN hM hg hlv hr
  · exact impl_body11 N ih k1 u1 n1 tk1 tn1 tks1 ns1 ks1 atks1 ctks1 ans1 cns1 aks1 cks1 l w ⟨h, hn⟩ hpw hN hM hg hlv hr
set_option maxRecDepth 100000 in
theorem impl_print_step (N : Nat) (ih : ImPrW N) : ImPrW (N + 1) := by
  intro k1 u1 n1 tk1 tn1 tks1 ns1 ks1 atks1 ctks1 ans1 cns1 aks1 cks1 l w hpw hN hM hg hr
  by_cases h : tmLev k1 u1 < l
  case neg =>
    have ht : Tm.at l (Tm.mk k1 u1 n1 (Ty.mk tk1 tn1 tks1) ns1 ks1) = Tm.text (Tm.mk k1 u1 n1 (Ty.mk tk1 tn1 tks1) ns1 ks1) := if_neg h
    rw [ht]
    exact impl_body N ih k1 u1 n1 tk1 tn1 tks1 ns1 ks1 atks1 ctks1 ans1 cns1 aks1 cks1 l w hpw hN hM hg h hr
  case pos =>
    have HX0 := hid ((Boxes.nil w).alloc #[.int .i64 k1, .int .i64 u1, .string n1, .int .i64 tk1, .string tn1, .slice atks1 tks1.length ctks1, .slice ans1 ns1.length cns1, .slice aks1 ks1.length cks1] 36 (0, 0))
    have hB := (Below.refl w.heap.size w).alloc (Nat.le_refl _) (.cells #[.int .i64 k1, .int .i64 u1, .string n1, .int .i64 tk1, .string tn1, .slice atks1 tks1.length ctks1, .slice ans1 ns1.length cns1, .slice aks1 ks1.length cks1] 36)
    have HB0 := hid hB
    have hLi := tmLev_in k1 u1
    have HLV := hid (fun W => impl_Level k1 u1 n1 tk1 tn1 tks1 ns1 ks1 atks1 ctks1 ans1 cns1 aks1 cks1 W)
    have HC := hid (fun W (hb : Below w.heap.size w W) => impl_body N ih k1 u1 n1 tk1 tn1 tks1 ns1 ks1 atks1 ctks1 ans1 cns1 aks1 cks1 0 W (hpw.below hb) hN hM hg (by omega) (hr.below hb))
    have hsz := Tm.text_small hg hM
    have HT := hid (show Tm.at l (Tm.mk k1 u1 n1 (Ty.mk tk1 tn1 tks1) ns1 ks1) = (⟨#[40]⟩ ++ Tm.text (Tm.mk k1 u1 n1 (Ty.mk tk1 tn1 tks1) ns1 ks1)) ++ ⟨#[41]⟩ from if_pos h)
    generalize Tm.text (Tm.mk k1 u1 n1 (Ty.mk tk1 tn1 tks1) ns1 ks1) = y at HC hsz HT
    have e1 : (⟨#[40]⟩ : ByteArray).size = 1 := rfl
    have e2 : (⟨#[41]⟩ : ByteArray).size = 1 := rfl
    have e3 : ((⟨#[40]⟩ : ByteArray) ++ y).size = 1 + y.size := by rw [ByteArray.size_append, e1]
    generalize tmLev k1 u1 = L at HLV h
    clear hB hpw hN hM hg hr ih hLi
    go_enter Tryz.func25, Tryz.ntmps25
    go_wp2_with fail
    refine (HLV.out _).mono ?_
    rintro e w1 ⟨rfl, hb⟩
    have HB := hid (HB0.out.trans (hb.mono HB0.out.size))
    have HX1 := hid (HX0.out.below hb)
    have b0 := HX1.out.at 0 0 rfl rfl
    have b1 := HX1.out.at 0 1 rfl rfl
    have b2 := HX1.out.at 0 2 rfl rfl
    have b3 := HX1.out.at 0 3 rfl rfl
    have b4 := HX1.out.at 0 4 rfl rfl
    have b5 := HX1.out.at 0 5 rfl rfl
    have b6 := HX1.out.at 0 6 rfl rfl
    have b7 := HX1.out.at 0 7 rfl rfl
    clear hb HX0
    go_wp2_with fail
    refine (HC.out _ HB.out).mono ?_
    rintro e w2 ⟨rfl, hb⟩
    have HBZ := hid (HB.out.trans (hb.mono HB.out.size))
    clear hb b0 b1 b2 b3 b4 b5 b6 b7
    go_wp2_with fail
    go_ret
    exact ret_strB HT.out.symm HBZ.out
theorem impl_print : ∀ N, ImPrW N
  | 0 => fun _ _ _ _ _ _ _ _ _ _ _ _ _ _ _ _ _ h => absurd h (Nat.not_lt_zero _)
  | N + 1 => impl_print_step N (impl_print N)
theorem spec_bare : ∀ N, BareW N
  | 0 => fun _ _ _ _ _ _ _ _ _ _ _ _ _ _ _ _ _ h => absurd h (Nat.not_lt_zero _)
  | N + 1 => spec_bare_step N (spec_bare N)
def lim (y : ByteArray) : ByteArray := if 20000 < y.size then ⟨#[]⟩ else y
theorem impl_limited (y : ByteArray) (w : World) (hy : y.size ≤ 1099511627776) :
    Calls Tryz.prog 24 #[.string y] w fun e w' => e = .returned (.string (lim y)) ∧ w = w' := by
  by_cases h : 20000 < y.size
  case pos =>
    have HL := hid (show lim y = ⟨#[]⟩ from if_pos h)
    have g1 : decide ((20000 : Int) < (y.size : Int)) = true := decide_eq_true (by omega)
    go_enter Tryz.func24, Tryz.ntmps24
    go_wp2_with fail
    go_ret
    exact ⟨by rw [HL.out]; rfl, rfl⟩
  case neg =>
    have HL := hid (show lim y = y from if_neg h)
    have g1 : decide ((20000 : Int) < (y.size : Int)) = false := decide_eq_false (by omega)
    go_enter Tryz.func24, Tryz.ntmps24
    go_wp2_with fail
    go_ret
    exact ⟨by rw [HL.out]; rfl, rfl⟩
def prTm (t : Tm) : ByteArray := if Tm.ok t then lim (Tm.text t) else ⟨#[]⟩
theorem Tm.ok_goodR {t : Tm} (h : Tm.ok t = true) : Tm.good t = true ∧ Tm.isCase t = false := by simp only [Tm.ok, Bool.and_eq_true, Bool.not_eq_true'] at h; exact ⟨h.1, h.2.1⟩
set_option maxRecDepth 100000 in
theorem impl_PrintTerm (k1 : Int) (u1 : Int) (n1 : ByteArray) (tk1 : Int) (tn1 : ByteArray) (tks1 : List Ty) (ns1 : List ByteArray) (ks1 : List Tm) (atks1 : Option Addr) (ctks1 : Nat) (ans1 : Option Addr) (cns1 : Nat) (aks1 : Option Addr) (cks1 : Nat) (w : World) (hM : Tm.bulk (Tm.mk k1 u1 n1 (Ty.mk tk1 tn1 tks1) ns1 ks1) ≤ 1048576) (hr : RdS w (Tm.d (Tm.mk k1 u1 n1 (Ty.mk tk1 tn1 tks1) ns1 ks1)) [.int .i64 k1, .int .i64 u1, .string n1, .int .i64 tk1, .string tn1, .slice atks1 tks1.length ctks1, .slice ans1 ns1.length cns1, .slice aks1 ks1.length cks1]) (hpw : Pow w) :
    Calls Tryz.prog 8 #[.agg #[.int .i64 k1, .int .i64 u1, .string n1, .int .i64 tk1, .string tn1, .slice atks1 tks1.length ctks1, .slice ans1 ns1.length cns1, .slice aks1 ks1.length cks1]] w fun e w' => e = .returned (.string (prTm (Tm.mk k1 u1 n1 (Ty.mk tk1 tn1 tks1) ns1 ks1))) ∧ Below w.heap.size w w' := by
  have HX0 := hid ((Boxes.nil w).alloc #[.int .i64 k1, .int .i64 u1, .string n1, .int .i64 tk1, .string tn1, .slice atks1 tks1.length ctks1, .slice ans1 ns1.length cns1, .slice aks1 ks1.length cks1] 36 (0, 0))
  have hB := (Below.refl w.heap.size w).alloc (Nat.le_refl _) (.cells #[.int .i64 k1, .int .i64 u1, .string n1, .int .i64 tk1, .string tn1, .slice atks1 tks1.length ctks1, .slice ans1 ns1.length cns1, .slice aks1 ks1.length cks1] 36)
  have HV := hid (fun W (hb : Below w.heap.size w W) => impl_ValidTerm k1 u1 n1 tk1 tn1 tks1 ns1 ks1 atks1 ctks1 ans1 cns1 aks1 cks1 W hM (hr.below hb))
  have HB0 := hid hB
  by_cases hok : Tm.ok (Tm.mk k1 u1 n1 (Ty.mk tk1 tn1 tks1) ns1 ks1) = true
  case neg =>
    have hf := (Bool.not_eq_true _).mp hok
    rw [hf] at HV
    have ht : prTm (Tm.mk k1 u1 n1 (Ty.mk tk1 tn1 tks1) ns1 ks1) = ⟨#[]⟩ := by simp [prTm, hf]
    rw [ht]
    clear ht hf hok hr hM hpw hB
    go_enter Tryz.func8, Tryz.ntmps8
    go_wp2_with fail
    refine (HV.out _ (by first | exact HB0.out | exact Below.refl _ _)).mono ?_
    rintro e w1 ⟨rfl, hb⟩
    have HB1 := hid hb
    clear hb
    go_wp2_with fail
    go_ret
    exact ⟨rfl, by first | exact HB1.out | exact HB0.out.trans (HB1.out.mono HB0.out.size)⟩
  case pos =>
    have hg := (Tm.ok_goodR hok).1
    rw [hok] at HV
    have ht : prTm (Tm.mk k1 u1 n1 (Ty.mk tk1 tn1 tks1) ns1 ks1) = lim (Tm.text (Tm.mk k1 u1 n1 (Ty.mk tk1 tn1 tks1) ns1 ks1)) := by simp [prTm, hok]
    have hsz := Tm.text_small hg hM
    have HC := hid (fun W (hb : Below w.heap.size w W) => impl_print (Tm.bulk (Tm.mk k1 u1 n1 (Ty.mk tk1 tn1 tks1) ns1 ks1) + 1) k1 u1 n1 tk1 tn1 tks1 ns1 ks1 atks1 ctks1 ans1 cns1 aks1 cks1 0 W (hpw.below hb) (by omega) hM hg (hr.below hb))
    rw [Tm.at_0] at HC
    rw [ht]
    generalize Tm.text (Tm.mk k1 u1 n1 (Ty.mk tk1 tn1 tks1) ns1 ks1) = y at HC hsz ⊢
    have HLM := hid (fun W => impl_limited y W (by omega))
    clear ht hok hr hM hpw hB hg
    go_enter Tryz.func8, Tryz.ntmps8
    go_wp2_with fail
    refine (HV.out _ (by first | exact HB0.out | exact Below.refl _ _)).mono ?_
    rintro e w1 ⟨rfl, hb⟩
    first | (have HB1 := hid (HB0.out.trans (hb.mono HB0.out.size)); have HX1 := hid (HX0.out.below hb)) | have HB1 := hid hb
    try have b0 := HX1.out.at 0 0 rfl rfl
    try have b1 := HX1.out.at 0 1 rfl rfl
    try have b2 := HX1.out.at 0 2 rfl rfl
    try have b3 := HX1.out.at 0 3 rfl rfl
    try have b4 := HX1.out.at 0 4 rfl rfl
    try have b5 := HX1.out.at 0 5 rfl rfl
    try have b6 := HX1.out.at 0 6 rfl rfl
    try have b7 := HX1.out.at 0 7 rfl rfl
    clear hb
    go_wp2_with fail
    refine (HC.out _ HB1.out).mono ?_
    rintro e w2 ⟨rfl, hb⟩
    have HB2 := hid (HB1.out.trans (hb.mono HB1.out.size))
    clear hb
    go_wp2_with fail
    refine (HLM.out _).mono ?_
    rintro e w3 ⟨rfl, rfl⟩
    go_wp2_with fail
    go_ret
    exact ⟨rfl, HB2.out⟩
set_option maxRecDepth 100000 in
theorem spec_PrintTerm (k1 : Int) (u1 : Int) (n1 : ByteArray) (tk1 : Int) (tn1 : ByteArray) (tks1 : List Ty) (ns1 : List ByteArray) (ks1 : List Tm) (atks1 : Option Addr) (ctks1 : Nat) (ans1 : Option Addr) (cns1 : Nat) (aks1 : Option Addr) (cks1 : Nat) (w : World) (hM : Tm.bulk (Tm.mk k1 u1 n1 (Ty.mk tk1 tn1 tks1) ns1 ks1) ≤ 1048576) (hr : RdS w (Tm.d (Tm.mk k1 u1 n1 (Ty.mk tk1 tn1 tks1) ns1 ks1)) [.int .i64 k1, .int .i64 u1, .string n1, .int .i64 tk1, .string tn1, .slice atks1 tks1.length ctks1, .slice ans1 ns1.length cns1, .slice aks1 ks1.length cks1]) :
    Calls Tryz.prog 6 #[.agg #[.int .i64 k1, .int .i64 u1, .string n1, .int .i64 tk1, .string tn1, .slice atks1 tks1.length ctks1, .slice ans1 ns1.length cns1, .slice aks1 ks1.length cks1]] w fun e w' => e = .returned (.string (prTm (Tm.mk k1 u1 n1 (Ty.mk tk1 tn1 tks1) ns1 ks1))) ∧ Below w.heap.size w w' := by
  have HX0 := hid ((Boxes.nil w).alloc #[.int .i64 k1, .int .i64 u1, .string n1, .int .i64 tk1, .string tn1, .slice atks1 tks1.length ctks1, .slice ans1 ns1.length cns1, .slice aks1 ks1.length cks1] 36 (0, 0))
  have hB := (Below.refl w.heap.size w).alloc (Nat.le_refl _) (.cells #[.int .i64 k1, .int .i64 u1, .string n1, .int .i64 tk1, .string tn1, .slice atks1 tks1.length ctks1, .slice ans1 ns1.length cns1, .slice aks1 ks1.length cks1] 36)
  have HV := hid (fun W (hb : Below w.heap.size w W) => spec_ValidTerm k1 u1 n1 tk1 tn1 tks1 ns1 ks1 atks1 ctks1 ans1 cns1 aks1 cks1 W hM (hr.below hb))
  have HB0 := hid hB
  by_cases hok : Tm.ok (Tm.mk k1 u1 n1 (Ty.mk tk1 tn1 tks1) ns1 ks1) = true
  case neg =>
    have hf := (Bool.not_eq_true _).mp hok
    rw [hf] at HV
    have ht : prTm (Tm.mk k1 u1 n1 (Ty.mk tk1 tn1 tks1) ns1 ks1) = ⟨#[]⟩ := by simp [prTm, hf]
    rw [ht]
    clear ht hf hok hr hM hB
    go_enter Tryz.func6, Tryz.ntmps6
    go_wp2_with fail
    refine (HV.out _ HB0.out).mono ?_
    rintro e w1 ⟨rfl, hb⟩
    have HB1 := hid (HB0.out.trans (hb.mono HB0.out.size))
    clear hb
    go_wp2_with fail
    go_ret
    exact ⟨rfl, HB1.out⟩
  case pos =>
    obtain ⟨hg, hcs⟩ := Tm.ok_goodR hok
    rw [hok] at HV
    have ht : prTm (Tm.mk k1 u1 n1 (Ty.mk tk1 tn1 tks1) ns1 ks1) = lim (Tm.text (Tm.mk k1 u1 n1 (Ty.mk tk1 tn1 tks1) ns1 ks1)) := by simp [prTm, hok]
    have hsz := Tm.text_small hg hM
    have HC := hid (fun W (hb : Below w.heap.size w W) (hx : Boxes W [(w.heap.size, [.int .i64 k1, .int .i64 u1, .string n1, .int .i64 tk1, .string tn1, .slice atks1 tks1.length ctks1, .slice ans1 ns1.length cns1, .slice aks1 ks1.length cks1])]) => print_of (Tm.bulk (Tm.mk k1 u1 n1 (Ty.mk tk1 tn1 tks1) ns1 ks1) + 1) (spec_bare _) k1 u1 n1 tk1 tn1 tks1 ns1 ks1 atks1 ctks1 ans1 cns1 aks1 cks1 w.heap.size 0 0 W (by omega) hM hg hcs (hx.at 0 0 rfl rfl) (hx.at 0 1 rfl rfl) (hx.at 0 2 rfl rfl) (hx.at 0 3 rfl rfl) (hx.at 0 4 rfl rfl) (hx.at 0 5 rfl rfl) (hx.at 0 6 rfl rfl) (hx.at 0 7 rfl rfl) (hr.below hb))
    rw [Tm.at_0] at HC
    rw [ht]
    generalize Tm.text (Tm.mk k1 u1 n1 (Ty.mk tk1 tn1 tks1) ns1 ks1) = y at HC hsz ⊢
    by_cases h : 20000 < y.size
    case pos =>
      have HL := hid (show lim y = ⟨#[]⟩ from if_pos h)
      have g1 : decide ((20000 : Int) < (y.size : Int)) = true := decide_eq_true (by omega)
      clear ht hok hr hM hB hg hcs
      go_enter Tryz.func6, Tryz.ntmps6
      go_wp2_with fail
      refine (HV.out _ HB0.out).mono ?_
      rintro e w1 ⟨rfl, hb⟩
      have HB1 := hid (HB0.out.trans (hb.mono HB0.out.size))
      have HX1 := hid (HX0.out.below hb)
      clear hb
      go_wp2_with fail
      refine (HC.out _ HB1.out HX1.out).mono ?_
      rintro e w2 ⟨rfl, hb⟩
      have HB2 := hid (HB1.out.trans (hb.mono HB1.out.size))
      clear hb
      go_wp2_with fail
      go_ret
      exact ret_strB HL.out.symm HB2.out
    case neg =>
      have HL := hid (show lim y = y from if_neg h)
      have g1 : decide ((20000 : Int) < (y.size : Int)) = false := decide_eq_false (by omega)
      clear ht hok hr hM hB hg hcs
      go_enter Tryz.func6, Tryz.ntmps6
      go_wp2_with fail
      refine (HV.out _ HB0.out).mono ?_
      rintro e w1 ⟨rfl, hb⟩
      have HB1 := hid (HB0.out.trans (hb.mono HB0.out.size))
      have HX1 := hid (HX0.out.below hb)
      clear hb
      go_wp2_with fail
      refine (HC.out _ HB1.out HX1.out).mono ?_
      rintro e w2 ⟨rfl, hb⟩
      have HB2 := hid (HB1.out.trans (hb.mono HB1.out.size))
      clear hb
      go_wp2_with fail
      go_ret
      exact ret_strB HL.out.symm HB2.out
end Go.Proofs.YtikhofcjkcbpbaaGreatDoor
