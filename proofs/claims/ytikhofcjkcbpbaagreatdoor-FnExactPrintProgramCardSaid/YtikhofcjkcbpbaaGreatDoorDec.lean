/- Merged texts: DeP DeS DeI. No condition. -/
import Derived.Lib.ItoaNum
import Derived.Lib.ParseIntB
import Derived.Test.YtikhofcjkcbpbaaGreatDoorFrame
import Derived.Laws.OwnMore
import Derived.Laws.IdiomStrings
import Derived.Lib.UnsafeStr
import Derived.WalkSmall
import Derived.Test.YtikhofcjkcbpbaaGreatDoorCard
import Derived.Test.YtikhofcjkcbpbaaGreatDoorShelf
/- was: DeP -/
namespace Go.Proofs.YtikhofcjkcbpbaaGreatDoor
open Go
set_option linter.unusedVariables false

/-- The byte of a digit. -/
def dgt (u : Nat) : UInt8 := UInt8.ofNat (48 + u % 10)
theorem dgt_toNat (u : Nat) : (dgt u).toNat = 48 + u % 10 := by
  unfold dgt
  rw [UInt8.toNat_ofNat']
  omega
/-- The digits of a number, the last ahead; none for 0. -/
def rdg (u : Nat) : List UInt8 := if h : u = 0 then [] else dgt u :: rdg (u / 10)
termination_by u
decreasing_by omega
theorem rdg_zero : rdg 0 = [] := by rw [rdg, dif_pos rfl]
theorem rdg_pos {u : Nat} (h : u ≠ 0) : rdg u = dgt u :: rdg (u / 10) := by rw [rdg, dif_neg h]
theorem decDigits_rdg (u : Nat) (h : u ≠ 0) : Lib.decDigits u = (rdg u).reverse := by
  induction u using Nat.strongRecOn with
  | _ u ih =>
    rw [rdg_pos h]
    by_cases h1 : u < 10
    · rw [Lib.decDigits, dif_pos h1, Nat.div_eq_of_lt h1, rdg_zero]
      show _ = [dgt u]
      unfold dgt
      rw [Nat.mod_eq_of_lt h1]
    · rw [Lib.decDigits, dif_neg h1, ih (u / 10) (by omega) (by omega), List.reverse_cons]
      rfl
theorem decDigits_zero : Lib.decDigits 0 = [48] := by rw [Lib.decDigits, dif_pos (by omega)]; rfl
/-- What the reference has laid when its loop is through, the last byte ahead. -/
def rdec (n : Int) : List UInt8 := rdg n.natAbs ++ (if n = 0 then [48] else []) ++ (if n < 0 then [45] else [])
theorem rdec_reverse (n : Int) : (rdec n).reverse = Lib.itoa n := by
  unfold rdec Lib.itoa
  by_cases h0 : n = 0
  · subst h0; simp [rdg_zero, decDigits_zero]
  · by_cases hn : n < 0
    · rw [if_neg h0, if_pos hn, if_pos hn, decDigits_rdg _ (by omega)]; simp
    · rw [if_neg h0, if_neg hn, if_neg hn, decDigits_rdg _ (by omega), show n.natAbs = n.toNat by omega]; simp
theorem rdg_length (k : Nat) : ∀ u, u < 10 ^ k → (rdg u).length ≤ k := by
  induction k with
  | zero => intro u h; obtain rfl : u = 0 := (by simpa using h); rw [rdg_zero]; exact Nat.le_refl _
  | succ k ih =>
    intro u h
    by_cases h0 : u = 0
    · subst h0; simp [rdg_zero]
    · rw [rdg_pos h0, List.length_cons]
      have := ih (u / 10) (by rw [Nat.pow_succ] at h; omega)
      omega
theorem rdec_length {n : Int} (h1 : -9223372036854775808 ≤ n) (h2 : n ≤ 9223372036854775807) : (rdec n).length ≤ 22 := by
  have h3 : n.natAbs < 10 ^ 20 := by rw [show 10 ^ 20 = 100000000000000000000 from rfl]; omega
  have h4 := rdg_length 20 n.natAbs h3
  have h5 : (if n = 0 then ([48] : List UInt8) else []).length ≤ 1 := by split <;> decide
  have h6 : (if n < 0 then ([45] : List UInt8) else []).length ≤ 1 := by split <;> decide
  unfold rdec
  rw [List.length_append, List.length_append]
  omega
def dstep (a : Nat) (c : UInt8) : Nat := a * 10 + (c.toNat - 48)
/-- The number that digits spell. -/
def dval (a : Nat) (l : List UInt8) : Nat := l.foldl dstep a
def isDig (c : UInt8) : Bool := decide (48 ≤ c.toNat) && decide (c.toNat ≤ 57)
theorem dval_append (l r : List UInt8) (a : Nat) : dval a (l ++ r) = dval (dval a l) r := by unfold dval; rw [List.foldl_append]
theorem dval_cons (a : Nat) (c : UInt8) (r : List UInt8) : dval a (c :: r) = dval (dstep a c) r := by unfold dval; rw [List.foldl_cons]
theorem dval_nil (a : Nat) : dval a [] = a := by unfold dval; rw [List.foldl_nil]
theorem dval_one (a : Nat) (c : UInt8) : dval a [c] = a * 10 + (c.toNat - 48) := by rw [dval_cons, dval_nil]; unfold dstep; rfl
theorem isDig_dgt (u : Nat) : isDig (dgt u) = true ∧ (dgt u).toNat - 48 = u % 10 := by
  have h1 := dgt_toNat u
  refine ⟨?_, by omega⟩
  simp only [isDig, h1, Bool.and_eq_true, decide_eq_true_eq]
  omega
theorem decDigits_small {u : Nat} (h : u < 10) : Lib.decDigits u = [dgt u] := by
  rw [Lib.decDigits, dif_pos h]
  have : u % 10 = u := Nat.mod_eq_of_lt h
  unfold dgt
  rw [this]
theorem decDigits_big {u : Nat} (h : ¬ u < 10) : Lib.decDigits u = Lib.decDigits (u / 10) ++ [dgt u] := by
  rw [Lib.decDigits, dif_neg h]
  rfl
theorem decDigits_all (u : Nat) : (Lib.decDigits u).all isDig = true ∧ dval 0 (Lib.decDigits u) = u ∧ Lib.decDigits u ≠ [] := by
  induction u using Nat.strongRecOn with
  | _ u ih =>
    obtain ⟨d, e⟩ := isDig_dgt u
    by_cases h1 : u < 10
    · rw [decDigits_small h1]
      refine ⟨by rw [List.all_cons, d]; rfl, ?_, by simp⟩
      rw [dval_one, e]
      omega
    · rw [decDigits_big h1]
      obtain ⟨a, b, c⟩ := ih (u / 10) (by omega)
      refine ⟨by rw [List.all_append, a, List.all_cons, d]; rfl, ?_, by simp⟩
      rw [dval_append, b, dval_one, e]
      omega
theorem le_dstep (a : Nat) (c : UInt8) : a ≤ dstep a c := by unfold dstep; generalize c.toNat - 48 = d; omega
theorem dval_ge (l : List UInt8) : ∀ a, a ≤ dval a l := by
  induction l with
  | nil => intro a; rw [dval_nil]; exact Nat.le_refl _
  | cons c l ih =>
    intro a
    rw [dval_cons]
    exact Nat.le_trans (le_dstep a c) (ih _)
theorem decDigits_length (k : Nat) {u : Nat} (h : u < 10 ^ k) (hk : 1 ≤ k) : (Lib.decDigits u).length ≤ k := by
  by_cases h0 : u = 0
  · subst h0; rw [decDigits_zero]; simpa using hk
  · rw [decDigits_rdg u h0, List.length_reverse]; exact rdg_length k u h
theorem parseUintM_cons {M a : Nat} {c : UInt8} {r : List UInt8} (h1 : 48 ≤ c.toNat ∧ c.toNat ≤ 57) (h2 : ¬ 1844674407370955162 ≤ a) (h3 : ¬ M < dstep a c) : Lib.parseUintM M a (c :: r) = Lib.parseUintM M (dstep a c) r := by
  unfold dstep at h3 ⊢
  rw [Lib.parseUintM, if_pos h1, if_neg h2, if_neg h3]
theorem lt_ten {a M x : Nat} {c : UInt8} (h1 : dstep a c ≤ x) (h2 : x ≤ M) (h3 : M ≤ 18446744073709551615) : ¬ 1844674407370955162 ≤ a := by
  unfold dstep at h1
  generalize c.toNat - 48 = d at h1
  omega
theorem isDig_iff {c : UInt8} (h : isDig c = true) : 48 ≤ c.toNat ∧ c.toNat ≤ 57 := by
  simpa only [isDig, Bool.and_eq_true, decide_eq_true_eq] using h
/-- ParseUint finds the number again. -/
theorem parseUintM_digits (M : Nat) (hm : M ≤ 18446744073709551615) : ∀ (l : List UInt8) (a : Nat), l.all isDig = true → dval a l ≤ M → Lib.parseUintM M a l = .ok (dval a l)
  | [], a, _, _ => by rw [dval_nil, Lib.parseUintM]
  | c :: r, a, hd, hM => by
    rw [List.all_cons, Bool.and_eq_true] at hd
    rw [dval_cons] at hM ⊢
    have hg := dval_ge r (dstep a c)
    rw [parseUintM_cons (isDig_iff hd.1) (lt_ten hg hM hm) (Nat.not_lt.2 (Nat.le_trans hg hM))]
    exact parseUintM_digits M hm r _ hd.2 hM
theorem decDigits_head {u : Nat} {c : UInt8} {r : List UInt8} (h : Lib.decDigits u = c :: r) : 48 ≤ c.toNat ∧ c.toNat ≤ 57 := by
  have := (decDigits_all u).1
  rw [h, List.all_cons, Bool.and_eq_true] at this
  exact isDig_iff this.1
/-- Whether a number is one of the language. -/
def lint (n : Int) : Bool := decide (-2147483648 ≤ n) && decide (n ≤ 2147483647)
theorem parse_itoa {n : Int} (h : lint n = true) : Lib.parseIntB 64 (Lib.itoa n) = .ok n := by
  simp only [lint, Bool.and_eq_true, decide_eq_true_eq] at h
  unfold Lib.itoa
  by_cases hn : n < 0
  · rw [if_pos hn]
    obtain ⟨h1, h2, h3⟩ := decDigits_all n.natAbs
    have hp : Lib.parseUintB 64 (Lib.decDigits n.natAbs) = .ok n.natAbs := by
      rw [Lib.parseUintB, if_neg h3, parseUintM_digits _ (by decide) _ 0 h1 (by rw [h2, show (2 : Nat) ^ 64 - 1 = 18446744073709551615 from rfl]; omega), h2]
    simp only [Lib.parseIntB]
    rw [if_pos (Or.inr (by rfl)), hp]
    simp only
    rw [if_neg (fun h => h.1 (by rfl)), if_neg (fun h => by have := h.2; omega), if_pos (by rfl)]
    congr 1; omega
  · rw [if_neg hn]
    obtain ⟨h1, h2, h3⟩ := decDigits_all n.toNat
    have hp : Lib.parseUintB 64 (Lib.decDigits n.toNat) = .ok n.toNat := by
      rw [Lib.parseUintB, if_neg h3, parseUintM_digits _ (by decide) _ 0 h1 (by rw [h2, show (2 : Nat) ^ 64 - 1 = 18446744073709551615 from rfl]; omega), h2]
    cases hl : Lib.decDigits n.toNat with
    | nil => exact absurd hl h3
    | cons c r =>
      have hc := decDigits_head hl
      rw [hl] at hp
      simp only [Lib.parseIntB]
      rw [if_neg (by omega), hp]
      simp only
      rw [if_neg (by omega), if_neg (by omega), if_neg (by omega)]
      congr 1; omega
/-- ReadDecimal: the number that a text spells in the one way that Decimal writes. -/
def readDec (l : List UInt8) : Option Int := match Lib.parseIntB 64 l with
  | .ok v => if lint v = true ∧ Lib.itoa v = l then some v else none
  | _ => none
theorem readDec_some {l : List UInt8} {v : Int} (h : readDec l = some v) : lint v = true ∧ Lib.itoa v = l := by
  unfold readDec at h
  split at h
  · split at h
    · rename_i hx
      simp only [Option.some.injEq] at h
      subst h; exact hx
    · exact absurd h (by simp)
  · exact absurd h (by simp)
theorem readDec_of {l : List UInt8} {v : Int} (h1 : lint v = true) (h2 : Lib.itoa v = l) : readDec l = some v := by
  unfold readDec
  rw [← h2, parse_itoa h1]
  simp [h1]
theorem readDec_none {l : List UInt8} (h : ∀ v, lint v = true → Lib.itoa v ≠ l) : readDec l = none := by
  cases hr : readDec l with
  | none => rfl
  | some v => exact absurd (readDec_some hr).2 (h v (readDec_some hr).1)
theorem itoa_ne_nil (n : Int) : Lib.itoa n ≠ [] := by
  unfold Lib.itoa
  split
  · simp
  · exact (decDigits_all _).2.2
theorem itoa_length {n : Int} (h : lint n = true) : (Lib.itoa n).length ≤ 11 := by
  simp only [lint, Bool.and_eq_true, decide_eq_true_eq] at h
  unfold Lib.itoa
  split
  · have := decDigits_length 10 (u := n.natAbs) (by omega) (by omega)
    simp; omega
  · have := decDigits_length 10 (u := n.toNat) (by omega) (by omega)
    omega
/-- Whether a text begins with a sign; what stands behind it, of the first j bytes. -/
def sgn (l : List UInt8) : Bool := match l with
  | c :: _ => c.toNat == 45
  | [] => false
def part (l : List UInt8) (j : Nat) : List UInt8 := (l.take j).drop (if sgn l = true then 1 else 0)
theorem sgn_get {l : List UInt8} {c : UInt8} (h : l[0]? = some c) : sgn l = (c.toNat == 45) := by
  cases l with
  | nil => simp at h
  | cons a r => simp only [List.getElem?_cons_zero, Option.some.injEq] at h; subst h; rfl
theorem part_zero (l : List UInt8) : part l 0 = [] := by simp [part]
theorem part_sign {l : List UInt8} (h : sgn l = true) : part l 1 = [] := by
  unfold part
  rw [if_pos h]
  simp
theorem part_succ {l : List UInt8} {j : Nat} {c : UInt8} (h : l[j]? = some c) (hj : ¬ (j = 0 ∧ sgn l = true)) : part l (j + 1) = part l j ++ [c] := by
  obtain ⟨hlt, hc⟩ := List.getElem?_eq_some_iff.1 h
  unfold part
  rw [List.take_succ_eq_append_getElem hlt, hc]
  by_cases hs : sgn l = true
  · have h0 : j ≠ 0 := fun h0 => hj ⟨h0, hs⟩
    rw [if_pos hs, List.drop_append_of_le_length (by rw [List.length_take]; omega)]
  · rw [if_neg hs, List.drop_zero, List.drop_zero]
theorem part_length (l : List UInt8) (j : Nat) : (part l j).length ≤ j := by
  unfold part
  rw [List.length_drop, List.length_take]
  omega
theorem itoa_part {v : Int} {l : List UInt8} (h : Lib.itoa v = l) : part l l.length = Lib.decDigits v.natAbs ∧ (sgn l = true ↔ v < 0) := by
  subst h
  unfold Lib.itoa
  by_cases hv : v < 0
  · rw [if_pos hv]
    have hs : sgn (45 :: Lib.decDigits v.natAbs) = true := rfl
    refine ⟨?_, by simp [hs, hv]⟩
    unfold part
    rw [if_pos hs, List.take_length]
    rfl
  · rw [if_neg hv, show v.toNat = v.natAbs by omega]
    have hs : sgn (Lib.decDigits v.natAbs) = false := by
      cases hd : Lib.decDigits v.natAbs with
      | nil => rfl
      | cons c r => have := decDigits_head hd; simp only [sgn]; simp; omega
    refine ⟨?_, by simp [hs]; omega⟩
    unfold part
    rw [if_neg (by simp [hs]), List.take_length]
    rfl
theorem readDec_bad {l : List UInt8} {j : Nat} (hj : j ≤ l.length) (h : (part l j).all isDig = false) : readDec l = none := by
  refine readDec_none fun v hv he => ?_
  have h1 := (itoa_part he).1
  have h2 : (part l j).all isDig = true := by
    have ha := (decDigits_all v.natAbs).1
    rw [← h1, List.all_eq_true] at ha
    rw [List.all_eq_true]
    intro x hx
    refine ha x ?_
    unfold part at hx ⊢
    rw [List.take_length]
    rw [List.drop_take] at hx
    exact List.mem_of_mem_take hx
  rw [h2] at h
  exact absurd h (by simp)
theorem readDec_short {l : List UInt8} (h : l.length < 1 ∨ 11 < l.length) : readDec l = none := by
  refine readDec_none fun v hv he => ?_
  have h1 := itoa_length hv
  have h2 := itoa_ne_nil v
  rw [he] at h1 h2
  have := List.length_pos_iff.2 h2
  omega
def signed (l : List UInt8) (n : Nat) : Int := if sgn l = true then -(n : Int) else n
theorem readDec_val {l : List UInt8} {v : Int} (h : readDec l = some v) : v = signed l (dval 0 (part l l.length)) := by
  obtain ⟨h1, h2⟩ := itoa_part (readDec_some h).2
  rw [h1, (decDigits_all _).2.1]
  unfold signed
  split
  · rename_i hs; have := h2.1 hs; omega
  · rename_i hs
    have : ¬ v < 0 := fun hv => hs (h2.2 hv)
    omega
theorem dval_lt (l : List UInt8) : ∀ a, l.all isDig = true → dval a l < (a + 1) * 10 ^ l.length := by
  induction l with
  | nil => intro a _; rw [dval_nil]; simp
  | cons c r ih =>
    intro a h
    rw [List.all_cons, Bool.and_eq_true] at h
    rw [dval_cons]
    have h1 := ih (dstep a c) h.2
    have h2 : dstep a c + 1 ≤ (a + 1) * 10 := by
      have := isDig_iff h.1
      unfold dstep
      omega
    rw [List.length_cons, Nat.pow_succ, Nat.mul_comm (10 ^ r.length) 10, ← Nat.mul_assoc]
    exact Nat.lt_of_lt_of_le h1 (Nat.mul_le_mul_right _ h2)
def rdInt (o : Option Int) : Int := o.getD 0
def rdOk (o : Option Int) : Bool := o.isSome
end Go.Proofs.YtikhofcjkcbpbaaGreatDoor
/- was: DeS -/
namespace Go.Proofs.YtikhofcjkcbpbaaGreatDoor
open Go.ChangeShapes Go.WideShapes Go.ChangeAt Go.RowKit
set_option linter.unusedVariables false

theorem info8d : (Tryz.prog.info? 5).map (fun i => (i.zero, i.size, i.bytes)) = some (some (.int .u8 0), 1, 1) := by kernel_rfl
abbrev u8s (l : List UInt8) : List Value := l.map fun b => Value.int .u8 (b.toNat : Int)
theorem info_parts8 {P : Program} {t : TypeId} {z : Value} {s b : Nat} (h : (P.info? t).map (fun i => (i.zero, i.size, i.bytes)) = some (some z, s, b)) : ∃ i, P.info? t = some i ∧ i.zero = some z ∧ i.size = s ∧ i.bytes = b := by
  cases hi : P.info? t with
  | none => rw [hi] at h; simp at h
  | some i => rw [hi] at h; simp at h; exact ⟨i, rfl, h.1, h.2.1, h.2.2⟩
theorem one8_new (w : World) (x : Value) (t : TypeId) : ∀ j u, [x][j]? = some u → (w.alloc (.cells #[x] t)).cell? ((⟨w.heap.size, 0, none⟩ : Addr).add j) = some u := by
  intro j u hj
  match j, hj with
  | 0, hj =>
    simp only [List.getElem?_cons_zero, Option.some.injEq] at hj
    obtain rfl : u = x := hj.symm
    have hh : (w.alloc (.cells #[u] t (0, 0))).heap[w.heap.size]? = some (.cells #[u] t (0, 0)) := heap_alloc_new w _
    show (w.alloc (.cells #[u] t (0, 0))).cell? ⟨w.heap.size, 0, none⟩ = some u
    simp only [World.cell?, hh]
    simp
  | j + 1, hj => simp at hj
/-- A byte appended to a list of the call's own. -/
theorem wpList_append_byte {w : World} {ops : Array Oper} {rest : List Oper} {o : Oper} {a : Act} {Q : Exit → Act → World → Prop} (hgd : o.guard = none) (s x : Operand)
    (ho : o.op = .call { callee := .builtin .append, args := #[s, x], argTypes := #[81, 81] })
    (base : Nat) (v : Value) (zs : List UInt8) (n : UInt8) (m : Int) (hm : m = (n.toNat : Int)) (ad : Addr) (hs : a.eval s = v) (hx : a.eval x = .slice (some ad) 1 1) (hown : w.ownsRow base 5 1 v zs.length (u8s zs)) (hc : ∀ j u, [Value.int .u8 m][j]? = some u → w.cell? (ad.add j) = some u)
    (h63 : zs.length + 1 ≤ 4194304) (hbase : base ≤ w.heap.size)
    (hK : ∀ v' w', w'.ownsRow base 5 1 v' (zs ++ [n]).length (u8s (zs ++ [n])) → w.grownBy w' v.ownBlock → wpList Tryz.prog ops Q rest (a.put o.dst v') w') : wpList Tryz.prog ops Q (o :: rest) a w := by
  subst hm
  obtain ⟨i0, hi, hz0, hz1, hz2⟩ := info_parts8 info8d
  refine wpList_append_own w hgd s x _ ho base 5 i0 _ 1 1 Tryz.underlying81 hi hz0 hz1 hz2 rfl (by decide) v _ _ hs hown ad 1 1 [.int .u8 (n.toNat : Int)] hx rfl hc (fun u hu => by simp at hu; subst hu; rfl) (by simp only [maxLen]; omega) (by omega) hbase (fun v' w' h5 h6 _ => hK v' w' (by simpa using h5) h6)
theorem own_next8 {B : Nat} {w0 w w' : World} {v : Value} {xs : List UInt8} (hb : Below B w0 w) (hB : B ≤ w.heap.size) (ho : w.ownsRow B 5 1 v xs.length (u8s xs)) (hg : w.grownBy w' v.ownBlock) : Below B w0 w' := hb.grown hg hB fun k hk => (ho.lt k hk).1
theorem own8_string {w : World} {B : Nat} {v : Value} {l : List UInt8} (h : w.ownsRow B 5 1 v l.length (u8s l)) : (convert 81 9 v).run Tryz.prog w = .ok (.string ⟨l.toArray⟩) w := by
  rcases h.2 with ⟨rfl, hn⟩ | ⟨g, cap, cur, rfl, hB, hh, hc, hm, hs, ht⟩
  · obtain rfl : l = [] := List.length_eq_zero_iff.1 hn
    kernel_rfl
  · exact run_convert_bytes_back w 81 9 5 ⟨g, 0, none⟩ cap l Tryz.underlying81 Tryz.underlying5 Tryz.underlying9 (fun j hj => by
      have := h.cells rfl j (.int .u8 (l[j].toNat : Int)) (by simp [List.getElem?_eq_getElem hj])
      simpa [Addr.add] using this)
theorem own8_slice {w : World} {B : Nat} {v : Value} {l : List UInt8} (h : w.ownsRow B 5 1 v l.length (u8s l)) (hl : l ≠ []) : ∃ g cap, v = .slice (some ⟨g, 0, none⟩) l.length cap ∧ g < w.heap.size ∧ ∀ (j : Nat) (hj : j < l.length), w.cell? ⟨g, j, none⟩ = some (.int .u8 (l[j].toNat : Int)) := by
  rcases h.2 with ⟨rfl, hn⟩ | ⟨g, cap, cur, rfl, hB, hh, hc, hm, hs, ht⟩
  · exact absurd (List.length_eq_zero_iff.1 hn) hl
  · refine ⟨g, cap, rfl, (Array.getElem?_eq_some_iff.1 hh).1, fun j hj => ?_⟩
    rw [h.cellAt j (by omega)]
    simp [List.getElem?_eq_getElem hj]
theorem tdiv_nat (u : Nat) : (-(u : Int)).tdiv 10 = -((u / 10 : Nat) : Int) := by rw [Int.neg_tdiv]; rfl
theorem tmod_nat (u : Nat) : (-(u : Int)).tmod 10 = -((u % 10 : Nat) : Int) := by rw [Int.neg_tmod]; rfl
def Says (w : World) (l : List UInt8) (e : Ending) (w' : World) : Prop := e = .returned (.string ⟨l.toArray⟩) ∧ Below w.heap.size w w'
set_option maxRecDepth 100000 in
set_option maxHeartbeats 4000000 in
theorem spec_Decimal (n : Int) (h1 : -9223372036854775808 ≤ n) (h2 : n ≤ 9223372036854775807) (w : World) :
    Calls Tryz.prog 74 #[.int .i64 n] w (Says w (Lib.itoa n)) := by
  have hb1 : Below w.heap.size w (w.alloc (.cells #[] 5)) := (Below.refl _ _).alloc (Nat.le_refl _) _
  have HB1 := hid hb1
  have HO1 := hid (show (w.alloc (.cells #[] 5)).ownsRow w.heap.size 5 1 (.slice (some ⟨w.heap.size, 0, none⟩) 0 0) ([] : List UInt8).length (u8s []) from World.ownsRow_made w #[] 0 (Nat.le_refl _) (by simp [maxLen]) rfl)
  have HLN := hid (show (rdg n.natAbs).length ≤ 20 from rdg_length 20 _ (by rw [show 10 ^ 20 = 100000000000000000000 from rfl]; omega))
  clear hb1
  go_enter Tryz.func74, Tryz.ntmps74
  go_wp2_with fail
  go_loopw [3, 4] (fun o i wr => ∃ (m : Int) (zs : List UInt8) (v0 : Value), i = .int .i64 m ∧ v0 = o ∧ Hid (-9223372036854775808 ≤ m ∧ m ≤ 9223372036854775807) ∧ Hid (wr.ownsRow w.heap.size 5 1 v0 zs.length (u8s zs)) ∧ Hid (Below w.heap.size w wr) ∧ Hid (rdg n.natAbs = zs ++ rdg m.natAbs)) (fun _ i _ => (intOf i).natAbs)
  case atStart => exact ⟨n, [], _, rfl, rfl, hid ⟨h1, h2⟩, HO1, HB1, hid rfl⟩
  case round =>
    obtain ⟨m, zs, v0, rfl, rfl, HR, HO, HB, HE⟩ := hrel
    by_cases h0 : m = 0
    case pos =>
      subst h0
      have HL := hid (show rdg n.natAbs = zs by have h := HE.out; simpa [rdg_zero] using h)
      have hzl : zs.length ≤ 20 := by have h := HLN.out; rw [HL.out] at h; exact h
      by_cases hn0 : n = 0
      case pos =>
        have HZS := hid (show zs = [] by rw [← HL.out, hn0]; exact rdg_zero)
        have HN0 := hid hn0
        have gn : (n == 0) = true := by simp [hn0]
        have gm : decide (n < 0) = false := decide_eq_false (by omega)
        clear hn0
        go_wp2_with (at_builtin; refine wpList_append_byte rfl _ _ rfl w.heap.size _ zs 48 48 (by decide) ⟨wr.heap.size, 0, none⟩ rfl rfl (HO.out.alloc _) (one8_new _ _ _) ?p1 ?p2 ?_)
        case p1 => omega
        case p2 => have := HB.out.size; simp; omega
        intro vo ws ho2 hg2
        have HO2 := hid (show ws.ownsRow w.heap.size 5 1 vo (zs ++ [48]).length (u8s (zs ++ [48])) by simpa [u8s] using ho2)
        have HB2 := hid (own_next8 (HB.out.alloc HB.out.size _) (by have := HB.out.size; simp; omega) (HO.out.alloc _) hg2)
        clear ho2 hg2
        obtain ⟨vz, hvz⟩ : ∃ l, zs ++ [48] = l := ⟨_, rfl⟩
        have HI := hid (show vz.reverse = Lib.itoa n by rw [← hvz, ← rdec_reverse, HN0.out, HZS.out]; unfold rdec; rw [if_pos rfl, if_neg (by omega)]; simp [rdg_zero])
        have hvl : vz.length ≤ 22 := by rw [← hvz, HZS.out]; decide
        rw [hvz] at HO2
        clear hvz
        have HBK1 := hid ((Below.refl ws.heap.size ws).alloc (Nat.le_refl _) (.cells #[] 5))
        have HOK1 := hid (show (ws.alloc (.cells #[] 5)).ownsRow ws.heap.size 5 1 (.slice (some ⟨ws.heap.size, 0, none⟩) 0 0) ([] : List UInt8).length (u8s []) from World.ownsRow_made ws #[] 0 (Nat.le_refl _) (by simp [maxLen]) rfl)
        obtain ⟨g, cap, rfl, hgl, hgc⟩ := own8_slice HO2.out (by intro h; have := HI.out; rw [h] at this; exact itoa_ne_nil n this.symm)
        have HGC := hid hgc
        clear hgc HO
        go_wp2_with fail
        go_loopw [6, 7] (fun b i wk => ∃ (j : Nat) (ys : List UInt8) (v0 : Value), i = .int .i64 ((j : Int) - 1) ∧ j ≤ vz.length ∧ v0 = b ∧ ys.length + j = vz.length ∧ Hid (wk.ownsRow ws.heap.size 5 1 v0 ys.length (u8s ys)) ∧ Hid (Below ws.heap.size ws wk) ∧ Hid (Lib.itoa n = ys ++ (vz.take j).reverse)) (fun _ i _ => (intOf i + 1).toNat)
        case atStart => exact ⟨vz.length, [], _, by go_num, Nat.le_refl _, rfl, by simp, HOK1, HBK1, hid (by rw [List.take_length]; exact HI.out.symm)⟩
        case round =>
          obtain ⟨j, ys, v0, rfl, hj, rfl, hyl, HOY, HBY, HEY⟩ := hrel
          by_cases hj0 : j = 0
          case pos =>
            subst hj0
            have hcv := own8_string HOY.out
            have HP := hid (show Says w (Lib.itoa n) (.returned (.string ⟨ys.toArray⟩)) wr from ⟨by rw [HEY.out]; simp, HB2.out.trans (HBY.out.mono HB2.out.size)⟩)
            go_wp2_with fail
            go_ret
            exact HP.out
          case neg =>
            obtain ⟨j, rfl⟩ : ∃ i, j = i + 1 := ⟨j - 1, by omega⟩
            have hgj := HGC.out j (by omega)
            have d0 := (HBY.out.cell (p := ⟨g, j, none⟩) hgl).trans hgj
            have HE2 := hid (show Lib.itoa n = (ys ++ [vz[j]]) ++ (vz.take j).reverse by rw [HEY.out, List.take_succ_eq_append_getElem (by omega)]; simp)
            have ej : ((j + 1 : Nat) : Int) - 1 = j := by omega
            rw [ej]
            clear hgj ej hj0
            go_wp2_with (at_builtin; refine wpList_append_byte rfl _ _ rfl ws.heap.size _ ys vz[j] _ rfl ⟨wr.heap.size, 0, none⟩ rfl rfl (HOY.out.alloc _) (one8_new _ _ _) ?pp1 ?pp2 ?_)
            case pp1 => omega
            case pp2 => have := HBY.out.size; simp; omega
            intro v2 w2 ho2 hg2
            have HO3 := hid (show w2.ownsRow ws.heap.size 5 1 v2 (ys ++ [vz[j]]).length (u8s (ys ++ [vz[j]])) by simpa [u8s] using ho2)
            have HB3 := hid (own_next8 (HBY.out.alloc HBY.out.size _) (by have := HBY.out.size; simp; omega) (HOY.out.alloc _) hg2)
            clear ho2 hg2 d0
            go_wp2_with fail
            go_roundw
            case rel => exact ⟨j, ys ++ [vz[j]], v2, by go_num, by omega, rfl, by simp; omega, HO3, HB3, HE2⟩
            case measure => first | (simp [intOf]; done) | (simp [intOf]; omega)

      case neg =>
        have gn : (n == 0) = false := by simp [hn0]
        by_cases hneg : n < 0
        case pos =>
          go_wp2_with (at_builtin; refine wpList_append_byte rfl _ _ rfl w.heap.size _ zs 45 45 (by decide) ⟨wr.heap.size, 0, none⟩ rfl rfl (HO.out.alloc _) (one8_new _ _ _) ?q1 ?q2 ?_)
          case q1 => omega
          case q2 => have := HB.out.size; simp; omega
          intro vo ws ho2 hg2
          have HO2 := hid (show ws.ownsRow w.heap.size 5 1 vo (zs ++ [45]).length (u8s (zs ++ [45])) by simpa [u8s] using ho2)
          have HB2 := hid (own_next8 (HB.out.alloc HB.out.size _) (by have := HB.out.size; simp; omega) (HO.out.alloc _) hg2)
          clear ho2 hg2
          obtain ⟨vz, hvz⟩ : ∃ l, zs ++ [45] = l := ⟨_, rfl⟩
          have HI := hid (show vz.reverse = Lib.itoa n by rw [← hvz, ← rdec_reverse]; unfold rdec; rw [if_neg hn0, if_pos hneg, HL.out]; simp)
          have hvl : vz.length ≤ 22 := by rw [← hvz]; simp; omega
          rw [hvz] at HO2
          clear hvz
          have HBK1 := hid ((Below.refl ws.heap.size ws).alloc (Nat.le_refl _) (.cells #[] 5))
          have HOK1 := hid (show (ws.alloc (.cells #[] 5)).ownsRow ws.heap.size 5 1 (.slice (some ⟨ws.heap.size, 0, none⟩) 0 0) ([] : List UInt8).length (u8s []) from World.ownsRow_made ws #[] 0 (Nat.le_refl _) (by simp [maxLen]) rfl)
          obtain ⟨g, cap, rfl, hgl, hgc⟩ := own8_slice HO2.out (by intro h; have := HI.out; rw [h] at this; exact itoa_ne_nil n this.symm)
          have HGC := hid hgc
          clear hgc HO
          go_wp2_with fail
          go_loopw [6, 7] (fun b i wk => ∃ (j : Nat) (ys : List UInt8) (v0 : Value), i = .int .i64 ((j : Int) - 1) ∧ j ≤ vz.length ∧ v0 = b ∧ ys.length + j = vz.length ∧ Hid (wk.ownsRow ws.heap.size 5 1 v0 ys.length (u8s ys)) ∧ Hid (Below ws.heap.size ws wk) ∧ Hid (Lib.itoa n = ys ++ (vz.take j).reverse)) (fun _ i _ => (intOf i + 1).toNat)
          case atStart => exact ⟨vz.length, [], _, by go_num, Nat.le_refl _, rfl, by simp, HOK1, HBK1, hid (by rw [List.take_length]; exact HI.out.symm)⟩
          case round =>
            obtain ⟨j, ys, v0, rfl, hj, rfl, hyl, HOY, HBY, HEY⟩ := hrel
            by_cases hj0 : j = 0
            case pos =>
              subst hj0
              have hcv := own8_string HOY.out
              have HP := hid (show Says w (Lib.itoa n) (.returned (.string ⟨ys.toArray⟩)) wr from ⟨by rw [HEY.out]; simp, HB2.out.trans (HBY.out.mono HB2.out.size)⟩)
              go_wp2_with fail
              go_ret
              exact HP.out
            case neg =>
              obtain ⟨j, rfl⟩ : ∃ i, j = i + 1 := ⟨j - 1, by omega⟩
              have hgj := HGC.out j (by omega)
              have d0 := (HBY.out.cell (p := ⟨g, j, none⟩) hgl).trans hgj
              have HE2 := hid (show Lib.itoa n = (ys ++ [vz[j]]) ++ (vz.take j).reverse by rw [HEY.out, List.take_succ_eq_append_getElem (by omega)]; simp)
              have ej : ((j + 1 : Nat) : Int) - 1 = j := by omega
              rw [ej]
              clear hgj ej hj0
              go_wp2_with (at_builtin; refine wpList_append_byte rfl _ _ rfl ws.heap.size _ ys vz[j] _ rfl ⟨wr.heap.size, 0, none⟩ rfl rfl (HOY.out.alloc _) (one8_new _ _ _) ?qq1 ?qq2 ?_)
              case qq1 => omega
              case qq2 => have := HBY.out.size; simp; omega
              intro v2 w2 ho2 hg2
              have HO3 := hid (show w2.ownsRow ws.heap.size 5 1 v2 (ys ++ [vz[j]]).length (u8s (ys ++ [vz[j]])) by simpa [u8s] using ho2)
              have HB3 := hid (own_next8 (HBY.out.alloc HBY.out.size _) (by have := HBY.out.size; simp; omega) (HOY.out.alloc _) hg2)
              clear ho2 hg2 d0
              go_wp2_with fail
              go_roundw
              case rel => exact ⟨j, ys ++ [vz[j]], v2, by go_num, by omega, rfl, by simp; omega, HO3, HB3, HE2⟩
              case measure => first | (simp [intOf]; done) | (simp [intOf]; omega)

        case neg =>
          have HO2 := HO
          have HB2 := HB
          obtain ⟨ws, hws⟩ : ∃ x, x = wr := ⟨_, rfl⟩
          subst hws
          obtain ⟨vz, hvz⟩ : ∃ l, zs = l := ⟨_, rfl⟩
          have HI := hid (show vz.reverse = Lib.itoa n by rw [← hvz, ← rdec_reverse]; unfold rdec; rw [if_neg hn0, if_neg hneg, HL.out]; simp)
          have hvl : vz.length ≤ 22 := by rw [← hvz]; omega
          rw [hvz] at HO2
          clear hvz
          have HBK1 := hid ((Below.refl ws.heap.size ws).alloc (Nat.le_refl _) (.cells #[] 5))
          have HOK1 := hid (show (ws.alloc (.cells #[] 5)).ownsRow ws.heap.size 5 1 (.slice (some ⟨ws.heap.size, 0, none⟩) 0 0) ([] : List UInt8).length (u8s []) from World.ownsRow_made ws #[] 0 (Nat.le_refl _) (by simp [maxLen]) rfl)
          obtain ⟨g, cap, rfl, hgl, hgc⟩ := own8_slice HO2.out (by intro h; have := HI.out; rw [h] at this; exact itoa_ne_nil n this.symm)
          have HGC := hid hgc
          clear hgc HO
          go_wp2_with fail
          go_loopw [6, 7] (fun b i wk => ∃ (j : Nat) (ys : List UInt8) (v0 : Value), i = .int .i64 ((j : Int) - 1) ∧ j ≤ vz.length ∧ v0 = b ∧ ys.length + j = vz.length ∧ Hid (wk.ownsRow ws.heap.size 5 1 v0 ys.length (u8s ys)) ∧ Hid (Below ws.heap.size ws wk) ∧ Hid (Lib.itoa n = ys ++ (vz.take j).reverse)) (fun _ i _ => (intOf i + 1).toNat)
          case atStart => exact ⟨vz.length, [], _, by go_num, Nat.le_refl _, rfl, by simp, HOK1, HBK1, hid (by rw [List.take_length]; exact HI.out.symm)⟩
          case round =>
            obtain ⟨j, ys, v0, rfl, hj, rfl, hyl, HOY, HBY, HEY⟩ := hrel
            by_cases hj0 : j = 0
            case pos =>
              subst hj0
              have hcv := own8_string HOY.out
              have HP := hid (show Says w (Lib.itoa n) (.returned (.string ⟨ys.toArray⟩)) wr from ⟨by rw [HEY.out]; simp, HB2.out.trans (HBY.out.mono HB2.out.size)⟩)
              go_wp2_with fail
              go_ret
              exact HP.out
            case neg =>
              obtain ⟨j, rfl⟩ : ∃ i, j = i + 1 := ⟨j - 1, by omega⟩
              have hgj := HGC.out j (by omega)
              have d0 := (HBY.out.cell (p := ⟨g, j, none⟩) hgl).trans hgj
              have HE2 := hid (show Lib.itoa n = (ys ++ [vz[j]]) ++ (vz.take j).reverse by rw [HEY.out, List.take_succ_eq_append_getElem (by omega)]; simp)
              have ej : ((j + 1 : Nat) : Int) - 1 = j := by omega
              rw [ej]
              clear hgj ej hj0
              go_wp2_with (at_builtin; refine wpList_append_byte rfl _ _ rfl ws.heap.size _ ys vz[j] _ rfl ⟨wr.heap.size, 0, none⟩ rfl rfl (HOY.out.alloc _) (one8_new _ _ _) ?rr1 ?rr2 ?_)
              case rr1 => omega
              case rr2 => have := HBY.out.size; simp; omega
              intro v2 w2 ho2 hg2
              have HO3 := hid (show w2.ownsRow ws.heap.size 5 1 v2 (ys ++ [vz[j]]).length (u8s (ys ++ [vz[j]])) by simpa [u8s] using ho2)
              have HB3 := hid (own_next8 (HBY.out.alloc HBY.out.size _) (by have := HBY.out.size; simp; omega) (HOY.out.alloc _) hg2)
              clear ho2 hg2 d0
              go_wp2_with fail
              go_roundw
              case rel => exact ⟨j, ys ++ [vz[j]], v2, by go_num, by omega, rfl, by simp; omega, HO3, HB3, HE2⟩
              case measure => first | (simp [intOf]; done) | (simp [intOf]; omega)
    case neg =>
      obtain ⟨hm1, hm2⟩ := HR.out
      have hzl : zs.length + 1 ≤ 20 := by
        have h := HLN.out
        rw [HE.out, rdg_pos (by omega)] at h
        simp only [List.length_append, List.length_cons] at h
        omega
      by_cases hp : 0 < m
      case pos =>
        obtain ⟨t, ht⟩ : ∃ t : Nat, m % 10 = (t : Int) := ⟨(m % 10).toNat, by omega⟩
        have ht9 : t ≤ 9 := by omega
        have htm : m.natAbs % 10 = t := by omega
        have gp : (m != 0) = true := by simp [h0]
        have HQR := hid (show -9223372036854775808 ≤ m / 10 ∧ m / 10 ≤ 9223372036854775807 by omega)
        have HE2 := hid (show rdg n.natAbs = (zs ++ [dgt m.natAbs]) ++ rdg (m / 10).natAbs by rw [HE.out, rdg_pos (by omega), show m.natAbs / 10 = (m / 10).natAbs by omega]; simp)
        have hdg := dgt_toNat m.natAbs
        rw [htm] at hdg
        clear h0 htm
        go_wp2_with (at_builtin; refine wpList_append_byte rfl _ _ rfl w.heap.size _ zs (dgt m.natAbs) _ ?a1 ⟨wr.heap.size, 0, none⟩ rfl rfl (HO.out.alloc _) (one8_new _ _ _) ?a2 ?a3 ?_)
        case a1 => omega
        case a2 => omega
        case a3 => have := HB.out.size; simp; omega
        intro v2 w2 ho2 hg2
        have HO2 := hid (show w2.ownsRow w.heap.size 5 1 v2 (zs ++ [dgt m.natAbs]).length (u8s (zs ++ [dgt m.natAbs])) by simpa [u8s, hdg] using ho2)
        have HB2 := hid (own_next8 (HB.out.alloc HB.out.size _) (by have := HB.out.size; simp; omega) (HO.out.alloc _) hg2)
        clear ho2 hg2
        go_wp2_with fail
        go_roundw
        case rel => exact ⟨m / 10, zs ++ [dgt m.natAbs], v2, rfl, rfl, HQR, HO2, HB2, HE2⟩
        case measure => first | (simp [intOf]; done) | (simp [intOf]; omega)
      case neg =>
        obtain ⟨u, hu⟩ : ∃ u : Nat, m = -(u : Int) := ⟨m.natAbs, by omega⟩
        have hq0 : m.tdiv 10 = -((u / 10 : Nat) : Int) := by rw [hu]; exact tdiv_nat u
        have ht0 : m.tmod 10 = -((u % 10 : Nat) : Int) := by rw [hu]; exact tmod_nat u
        obtain ⟨q, hq⟩ : ∃ q, m.tdiv 10 = q := ⟨_, rfl⟩
        obtain ⟨t, ht⟩ : ∃ t : Nat, m.tmod 10 = -(t : Int) := ⟨u % 10, ht0⟩
        have hqq : q = -((u / 10 : Nat) : Int) := hq.symm.trans hq0
        have htt : t = u % 10 := by rw [ht0] at ht; omega
        clear hq0 ht0
        have ht9 : t ≤ 9 := by omega
        have htm : m.natAbs % 10 = t := by omega
        have hm3 : m < 0 := by omega
        have hq1 : -922337203685477580 ≤ q := by omega
        have hq2 : q ≤ 0 := by omega
        have hqm : q.natAbs < m.natAbs := by omega
        have HQR := hid (show -9223372036854775808 ≤ q ∧ q ≤ 9223372036854775807 by omega)
        have HE2 := hid (show rdg n.natAbs = (zs ++ [dgt m.natAbs]) ++ rdg q.natAbs by rw [HE.out, rdg_pos (by omega), show m.natAbs / 10 = q.natAbs by omega]; simp)
        have hdg := dgt_toNat m.natAbs
        rw [htm] at hdg
        clear h0 hp htm hu hqq htt
        by_cases ht0 : t = 0
        case pos =>
          subst ht0
          go_wp2_with (at_builtin; refine wpList_append_byte rfl _ _ rfl w.heap.size _ zs (dgt m.natAbs) _ ?b1 ⟨wr.heap.size, 0, none⟩ rfl rfl (HO.out.alloc _) (one8_new _ _ _) ?b2 ?b3 ?_)
          case b1 => omega
          case b2 => omega
          case b3 => have := HB.out.size; simp; omega
          intro v2 w2 ho2 hg2
          have HO2 := hid (show w2.ownsRow w.heap.size 5 1 v2 (zs ++ [dgt m.natAbs]).length (u8s (zs ++ [dgt m.natAbs])) by simpa [u8s, hdg] using ho2)
          have HB2 := hid (own_next8 (HB.out.alloc HB.out.size _) (by have := HB.out.size; simp; omega) (HO.out.alloc _) hg2)
          clear ho2 hg2
          go_wp2_with fail
          go_roundw
          case rel => exact ⟨q, zs ++ [dgt m.natAbs], v2, rfl, rfl, HQR, HO2, HB2, HE2⟩
          case measure => first | (simp [intOf]; done) | (simp [intOf]; omega)

        case neg =>
          go_wp2_with (at_builtin; refine wpList_append_byte rfl _ _ rfl w.heap.size _ zs (dgt m.natAbs) _ ?c1 ⟨wr.heap.size, 0, none⟩ rfl rfl (HO.out.alloc _) (one8_new _ _ _) ?c2 ?c3 ?_)
          case c1 => omega
          case c2 => omega
          case c3 => have := HB.out.size; simp; omega
          intro v2 w2 ho2 hg2
          have HO2 := hid (show w2.ownsRow w.heap.size 5 1 v2 (zs ++ [dgt m.natAbs]).length (u8s (zs ++ [dgt m.natAbs])) by simpa [u8s, hdg] using ho2)
          have HB2 := hid (own_next8 (HB.out.alloc HB.out.size _) (by have := HB.out.size; simp; omega) (HO.out.alloc _) hg2)
          clear ho2 hg2
          go_wp2_with fail
          go_roundw
          case rel => exact ⟨q, zs ++ [dgt m.natAbs], v2, rfl, rfl, HQR, HO2, HB2, HE2⟩
          case measure => first | (simp [intOf]; done) | (simp [intOf]; omega)

end Go.Proofs.YtikhofcjkcbpbaaGreatDoor
/- was: DeI -/
namespace Go.Proofs.YtikhofcjkcbpbaaGreatDoor
open Go.ChangeShapes Go.WideShapes Go.ChangeAt Go.RowKit
set_option linter.unusedVariables false

set_option maxRecDepth 100000 in
theorem impl_Decimal (n : Int) (h1 : -9223372036854775808 ≤ n) (h2 : n ≤ 9223372036854775807) (w : World) (hp : Pow w) :
    Calls Tryz.prog 52 #[.int .i64 n] w (Says w (Lib.itoa n)) := by
  have hc := fun w' (h : Pow w') => Tryz.strconv_FormatInt_10 n h1 h2 w' h
  have HC := hid hc
  have HP := hid hp
  clear hc hp
  go_enter Tryz.func52, Tryz.ntmps52
  go_wp2_with fail
  refine (HC.out _ HP.out).mono ?_
  rintro e w' ⟨rfl, k, os, rfl⟩
  go_wp2_with fail
  go_ret
  exact ⟨rfl, grow_below _ _ _⟩
end Go.Proofs.YtikhofcjkcbpbaaGreatDoor
