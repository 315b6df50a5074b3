/- Texts joined: plain facts. No condition. -/
import Derived.Test.YtikhofcjkcbpbaaDoorDeP
import Derived.Lib.Join
import Derived.WideShapes
namespace Go.Proofs.YtikhofcjkcbpbaaDoor
open Go
set_option linter.unusedVariables false

/-- A number's decimal text. -/
def dec (n : Int) : ByteArray := ⟨(Lib.itoa n).toArray⟩
/-- Texts behind a text, a separator ahead of each. -/
def addAll (sep t : ByteArray) : List ByteArray → ByteArray
  | [] => t
  | x :: r => addAll sep (t ++ (sep ++ x)) r
theorem addAll_snoc (sep x : ByteArray) : ∀ (l : List ByteArray) (t : ByteArray), addAll sep t (l ++ [x]) = addAll sep t l ++ (sep ++ x)
  | [], t => rfl
  | y :: l, t => addAll_snoc sep x l (t ++ (sep ++ y))
theorem data_app (a b : ByteArray) : (a ++ b).data.toList = a.data.toList ++ b.data.toList := by rw [ByteArray.data_append, Array.toList_append]
theorem addAll_data (sep : ByteArray) : ∀ (l : List ByteArray) (t : ByteArray), (addAll sep t l).data.toList = t.data.toList ++ Lib.joinTail sep.data.toList (l.map (·.data.toList))
  | [], t => by simp [addAll, Lib.joinTail]
  | y :: l, t => by rw [addAll, addAll_data sep l, data_app, data_app]; simp [Lib.joinTail]
theorem addAll_pre (sep p : ByteArray) (l : List ByteArray) (t : ByteArray) : addAll sep (p ++ t) l = p ++ addAll sep t l :=
  WideShapes.bytes_inj (by rw [addAll_data, data_app, data_app, addAll_data]; simp)
theorem join_addAll (sep x : ByteArray) (r : List ByteArray) : (⟨(Lib.join ((x :: r).map (·.data.toList)) sep.data.toList).toArray⟩ : ByteArray) = addAll sep x r :=
  WideShapes.bytes_inj (by rw [addAll_data, List.map_cons, Lib.join_cons])
def szs : List ByteArray → Nat
  | [] => 0
  | x :: r => x.size + szs r
theorem addAll_size (sep : ByteArray) : ∀ (l : List ByteArray) (t : ByteArray), (addAll sep t l).size = t.size + sep.size * l.length + szs l
  | [], t => by simp [addAll, szs]
  | y :: l, t => by
    rw [addAll, addAll_size sep l, ByteArray.size_append, ByteArray.size_append, szs, List.length_cons, Nat.mul_succ]
    omega
theorem dec_size {n : Int} (h : lint n = true) : (dec n).size ≤ 11 := itoa_length h
end Go.Proofs.YtikhofcjkcbpbaaDoor
