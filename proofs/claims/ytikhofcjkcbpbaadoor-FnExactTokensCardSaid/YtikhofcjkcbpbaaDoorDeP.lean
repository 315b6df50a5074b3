/- Decimal texts: the plain law. No program. -/
import Derived.Lib.ItoaNum
import Derived.Lib.ParseIntB
namespace Go.Proofs.YtikhofcjkcbpbaaDoor
open Go
set_option linter.unusedVariables false

/-- The byte of a digit. -/
def dgt (u : Nat) : UInt8 := UInt8.ofNat (48 + u % 10)
theorem dgt_toNat (u : Nat) : (dgt u).toNat = 48 + u % 10 := by
  unfold dgt
  rw [UInt8.toNat_ofNat']
  omega
/-- The digits of a number, the last ahead; none for 0. -/
def rdg (u : Nat) : List UInt8 := if h : u = 0 then [] else dgt u :: rdg (u / 10)
termination_by u
decreasing_by omega
theorem rdg_zero : rdg 0 = [] := by rw [rdg, dif_pos rfl]
theorem rdg_pos {u : Nat} (h : u ≠ 0) : rdg u = dgt u :: rdg (u / 10) := by rw [rdg, dif_neg h]
theorem decDigits_rdg (u : Nat) (h : u ≠ 0) : Lib.decDigits u = (rdg u).reverse := by
  induction u using Nat.strongRecOn with
  | _ u ih =>
    rw [rdg_pos h]
    by_cases h1 : u < 10
    · rw [Lib.decDigits, dif_pos h1, Nat.div_eq_of_lt h1, rdg_zero]
      show _ = [dgt u]
      unfold dgt
      rw [Nat.mod_eq_of_lt h1]
    · rw [Lib.decDigits, dif_neg h1, ih (u / 10) (by omega) (by omega), List.reverse_cons]
      rfl
theorem decDigits_zero : Lib.decDigits 0 = [48] := by rw [Lib.decDigits, dif_pos (by omega)]; rfl
/-- What the reference has laid when its loop is through, the last byte ahead. -/
def rdec (n : Int) : List UInt8 := rdg n.natAbs ++ (if n = 0 then [48] else []) ++ (if n < 0 then [45] else [])
theorem rdec_reverse (n : Int) : (rdec n).reverse = Lib.itoa n := by
  unfold rdec Lib.itoa
  by_cases h0 : n = 0
  · subst h0; simp [rdg_zero, decDigits_zero]
  · by_cases hn : n < 0
    · rw [if_neg h0, if_pos hn, if_pos hn, decDigits_rdg _ (by omega)]; simp
    · rw [if_neg h0, if_neg hn, if_neg hn, decDigits_rdg _ (by omega), show n.natAbs = n.toNat by omega]; simp
theorem rdg_length (k : Nat) : ∀ u, u < 10 ^ k → (rdg u).length ≤ k := by
  induction k with
  | zero => intro u h; obtain rfl : u = 0 := (by simpa using h); rw [rdg_zero]; exact Nat.le_refl _
  | succ k ih =>
    intro u h
    by_cases h0 : u = 0
    · subst h0; simp [rdg_zero]
    · rw [rdg_pos h0, List.length_cons]
      have := ih (u / 10) (by rw [Nat.pow_succ] at h; omega)
      omega
theorem rdec_length {n : Int} (h1 : -9223372036854775808 ≤ n) (h2 : n ≤ 9223372036854775807) : (rdec n).length ≤ 22 := by
  have h3 : n.natAbs < 10 ^ 20 := by rw [show 10 ^ 20 = 100000000000000000000 from rfl]; omega
  have h4 := rdg_length 20 n.natAbs h3
  have h5 : (if n = 0 then ([48] : List UInt8) else []).length ≤ 1 := by split <;> decide
  have h6 : (if n < 0 then ([45] : List UInt8) else []).length ≤ 1 := by split <;> decide
  unfold rdec
  rw [List.length_append, List.length_append]
  omega
def dstep (a : Nat) (c : UInt8) : Nat := a * 10 + (c.toNat - 48)
/-- The number that digits spell. -/
def dval (a : Nat) (l : List UInt8) : Nat := l.foldl dstep a
def isDig (c : UInt8) : Bool := decide (48 ≤ c.toNat) && decide (c.toNat ≤ 57)
theorem dval_append (l r : List UInt8) (a : Nat) : dval a (l ++ r) = dval (dval a l) r := by unfold dval; rw [List.foldl_append]
theorem dval_cons (a : Nat) (c : UInt8) (r : List UInt8) : dval a (c :: r) = dval (dstep a c) r := by unfold dval; rw [List.foldl_cons]
theorem dval_nil (a : Nat) : dval a [] = a := by unfold dval; rw [List.foldl_nil]
theorem dval_one (a : Nat) (c : UInt8) : dval a [c] = a * 10 + (c.toNat - 48) := by rw [dval_cons, dval_nil]; unfold dstep; rfl
theorem isDig_dgt (u : Nat) : isDig (dgt u) = true ∧ (dgt u).toNat - 48 = u % 10 := by
  have h1 := dgt_toNat u
  refine ⟨?_, by omega⟩
  simp only [isDig, h1, Bool.and_eq_true, decide_eq_true_eq]
  omega
theorem decDigits_small {u : Nat} (h : u < 10) : Lib.decDigits u = [dgt u] := by
  rw [Lib.decDigits, dif_pos h]
  have : u % 10 = u := Nat.mod_eq_of_lt h
  unfold dgt
  rw [this]
theorem decDigits_big {u : Nat} (h : ¬ u < 10) : Lib.decDigits u = Lib.decDigits (u / 10) ++ [dgt u] := by
  rw [Lib.decDigits, dif_neg h]
  rfl
theorem decDigits_all (u : Nat) : (Lib.decDigits u).all isDig = true ∧ dval 0 (Lib.decDigits u) = u ∧ Lib.decDigits u ≠ [] := by
  induction u using Nat.strongRecOn with
  | _ u ih =>
    obtain ⟨d, e⟩ := isDig_dgt u
    by_cases h1 : u < 10
    · rw [decDigits_small h1]
      refine ⟨by rw [List.all_cons, d]; rfl, ?_, by simp⟩
      rw [dval_one, e]
      omega
    · rw [decDigits_big h1]
      obtain ⟨a, b, c⟩ := ih (u / 10) (by omega)
      refine ⟨by rw [List.all_append, a, List.all_cons, d]; rfl, ?_, by simp⟩
      rw [dval_append, b, dval_one, e]
      omega
theorem le_dstep (a : Nat) (c : UInt8) : a ≤ dstep a c := by unfold dstep; generalize c.toNat - 48 = d; omega
theorem dval_ge (l : List UInt8) : ∀ a, a ≤ dval a l := by
  induction l with
  | nil => intro a; rw [dval_nil]; exact Nat.le_refl _
  | cons c l ih =>
    intro a
    rw [dval_cons]
    exact Nat.le_trans (le_dstep a c) (ih _)
theorem decDigits_length (k : Nat) {u : Nat} (h : u < 10 ^ k) (hk : 1 ≤ k) : (Lib.decDigits u).length ≤ k := by
  by_cases h0 : u = 0
  · subst h0; rw [decDigits_zero]; simpa using hk
  · rw [decDigits_rdg u h0, List.length_reverse]; exact rdg_length k u h
theorem parseUintM_cons {M a : Nat} {c : UInt8} {r : List UInt8} (h1 : 48 ≤ c.toNat ∧ c.toNat ≤ 57) (h2 : ¬ 1844674407370955162 ≤ a) (h3 : ¬ M < dstep a c) : Lib.parseUintM M a (c :: r) = Lib.parseUintM M (dstep a c) r := by
  unfold dstep at h3 ⊢
  rw [Lib.parseUintM, if_pos h1, if_neg h2, if_neg h3]
theorem lt_ten {a M x : Nat} {c : UInt8} (h1 : dstep a c ≤ x) (h2 : x ≤ M) (h3 : M ≤ 18446744073709551615) : ¬ 1844674407370955162 ≤ a := by
  unfold dstep at h1
  generalize c.toNat - 48 = d at h1
  omega
theorem isDig_iff {c : UInt8} (h : isDig c = true) : 48 ≤ c.toNat ∧ c.toNat ≤ 57 := by
  simpa only [isDig, Bool.and_eq_true, decide_eq_true_eq] using h
/-- ParseUint finds the number again. -/
theorem parseUintM_digits (M : Nat) (hm : M ≤ 18446744073709551615) : ∀ (l : List UInt8) (a : Nat), l.all isDig = true → dval a l ≤ M → Lib.parseUintM M a l = .ok (dval a l)
  | [], a, _, _ => by rw [dval_nil, Lib.parseUintM]
  | c :: r, a, hd, hM => by
    rw [List.all_cons, Bool.and_eq_true] at hd
    rw [dval_cons] at hM ⊢
    have hg := dval_ge r (dstep a c)
    rw [parseUintM_cons (isDig_iff hd.1) (lt_ten hg hM hm) (Nat.not_lt.2 (Nat.le_trans hg hM))]
    exact parseUintM_digits M hm r _ hd.2 hM
theorem decDigits_head {u : Nat} {c : UInt8} {r : List UInt8} (h : Lib.decDigits u = c :: r) : 48 ≤ c.toNat ∧ c.toNat ≤ 57 := by
  have := (decDigits_all u).1
  rw [h, List.all_cons, Bool.and_eq_true] at this
  exact isDig_iff this.1
/-- Whether a number is one of the language. -/
def lint (n : Int) : Bool := decide (-2147483648 ≤ n) && decide (n ≤ 2147483647)
theorem parse_itoa {n : Int} (h : lint n = true) : Lib.parseIntB 64 (Lib.itoa n) = .ok n := by
  simp only [lint, Bool.and_eq_true, decide_eq_true_eq] at h
  unfold Lib.itoa
  by_cases hn : n < 0
  · rw [if_pos hn]
    obtain ⟨h1, h2, h3⟩ := decDigits_all n.natAbs
    have hp : Lib.parseUintB 64 (Lib.decDigits n.natAbs) = .ok n.natAbs := by
      rw [Lib.parseUintB, if_neg h3, parseUintM_digits _ (by decide) _ 0 h1 (by rw [h2, show (2 : Nat) ^ 64 - 1 = 18446744073709551615 from rfl]; omega), h2]
    simp only [Lib.parseIntB]
    rw [if_pos (Or.inr (by rfl)), hp]
    simp only
    rw [if_neg (fun h => h.1 (by rfl)), if_neg (fun h => by have := h.2; omega), if_pos (by rfl)]
    congr 1; omega
  · rw [if_neg hn]
    obtain ⟨h1, h2, h3⟩ := decDigits_all n.toNat
    have hp : Lib.parseUintB 64 (Lib.decDigits n.toNat) = .ok n.toNat := by
      rw [Lib.parseUintB, if_neg h3, parseUintM_digits _ (by decide) _ 0 h1 (by rw [h2, show (2 : Nat) ^ 64 - 1 = 18446744073709551615 from rfl]; omega), h2]
    cases hl : Lib.decDigits n.toNat with
    | nil => exact absurd hl h3
    | cons c r =>
      have hc := decDigits_head hl
      rw [hl] at hp
      simp only [Lib.parseIntB]
      rw [if_neg (by omega), hp]
      simp only
      rw [if_neg (by omega), if_neg (by omega), if_neg (by omega)]
      congr 1; omega
/-- ReadDecimal: the number that a text spells in the one way that Decimal writes. -/
def readDec (l : List UInt8) : Option Int := match Lib.parseIntB 64 l with
  | .ok v => if lint v = true ∧ Lib.itoa v = l then some v else none
  | _ => none
theorem readDec_some {l : List UInt8} {v : Int} (h : readDec l = some v) : lint v = true ∧ Lib.itoa v = l := by
  unfold readDec at h
  split at h
  · split at h
    · rename_i hx
      simp only [Option.some.injEq] at h
      subst h; exact hx
    · exact absurd h (by simp)
  · exact absurd h (by simp)
theorem readDec_of {l : List UInt8} {v : Int} (h1 : lint v = true) (h2 : Lib.itoa v = l) : readDec l = some v := by
  unfold readDec
  rw [← h2, parse_itoa h1]
  simp [h1]
theorem readDec_none {l : List UInt8} (h : ∀ v, lint v = true → Lib.itoa v ≠ l) : readDec l = none := by
  cases hr : readDec l with
  | none => rfl
  | some v => exact absurd (readDec_some hr).2 (h v (readDec_some hr).1)
theorem itoa_ne_nil (n : Int) : Lib.itoa n ≠ [] := by
  unfold Lib.itoa
  split
  · simp
  · exact (decDigits_all _).2.2
theorem itoa_length {n : Int} (h : lint n = true) : (Lib.itoa n).length ≤ 11 := by
  simp only [lint, Bool.and_eq_true, decide_eq_true_eq] at h
  unfold Lib.itoa
  split
  · have := decDigits_length 10 (u := n.natAbs) (by omega) (by omega)
    simp; omega
  · have := decDigits_length 10 (u := n.toNat) (by omega) (by omega)
    omega
/-- Whether a text begins with a sign; what stands behind it, of the first j bytes. -/
def sgn (l : List UInt8) : Bool := match l with
  | c :: _ => c.toNat == 45
  | [] => false
def part (l : List UInt8) (j : Nat) : List UInt8 := (l.take j).drop (if sgn l = true then 1 else 0)
theorem sgn_get {l : List UInt8} {c : UInt8} (h : l[0]? = some c) : sgn l = (c.toNat == 45) := by
  cases l with
  | nil => simp at h
  | cons a r => simp only [List.getElem?_cons_zero, Option.some.injEq] at h; subst h; rfl
theorem part_zero (l : List UInt8) : part l 0 = [] := by simp [part]
theorem part_sign {l : List UInt8} (h : sgn l = true) : part l 1 = [] := by
  unfold part
  rw [if_pos h]
  simp
theorem part_succ {l : List UInt8} {j : Nat} {c : UInt8} (h : l[j]? = some c) (hj : ¬ (j = 0 ∧ sgn l = true)) : part l (j + 1) = part l j ++ [c] := by
  obtain ⟨hlt, hc⟩ := List.getElem?_eq_some_iff.1 h
  unfold part
  rw [List.take_succ_eq_append_getElem hlt, hc]
  by_cases hs : sgn l = true
  · have h0 : j ≠ 0 := fun h0 => hj ⟨h0, hs⟩
    rw [if_pos hs, List.drop_append_of_le_length (by rw [List.length_take]; omega)]
  · rw [if_neg hs, List.drop_zero, List.drop_zero]
theorem part_length (l : List UInt8) (j : Nat) : (part l j).length ≤ j := by
  unfold part
  rw [List.length_drop, List.length_take]
  omega
theorem itoa_part {v : Int} {l : List UInt8} (h : Lib.itoa v = l) : part l l.length = Lib.decDigits v.natAbs ∧ (sgn l = true ↔ v < 0) := by
  subst h
  unfold Lib.itoa
  by_cases hv : v < 0
  · rw [if_pos hv]
    have hs : sgn (45 :: Lib.decDigits v.natAbs) = true := rfl
    refine ⟨?_, by simp [hs, hv]⟩
    unfold part
    rw [if_pos hs, List.take_length]
    rfl
  · rw [if_neg hv, show v.toNat = v.natAbs by omega]
    have hs : sgn (Lib.decDigits v.natAbs) = false := by
      cases hd : Lib.decDigits v.natAbs with
      | nil => rfl
      | cons c r => have := decDigits_head hd; simp only [sgn]; simp; omega
    refine ⟨?_, by simp [hs]; omega⟩
    unfold part
    rw [if_neg (by simp [hs]), List.take_length]
    rfl
theorem readDec_bad {l : List UInt8} {j : Nat} (hj : j ≤ l.length) (h : (part l j).all isDig = false) : readDec l = none := by
  refine readDec_none fun v hv he => ?_
  have h1 := (itoa_part he).1
  have h2 : (part l j).all isDig = true := by
    have ha := (decDigits_all v.natAbs).1
    rw [← h1, List.all_eq_true] at ha
    rw [List.all_eq_true]
    intro x hx
    refine ha x ?_
    unfold part at hx ⊢
    rw [List.take_length]
    rw [List.drop_take] at hx
    exact List.mem_of_mem_take hx
  rw [h2] at h
  exact absurd h (by simp)
theorem readDec_short {l : List UInt8} (h : l.length < 1 ∨ 11 < l.length) : readDec l = none := by
  refine readDec_none fun v hv he => ?_
  have h1 := itoa_length hv
  have h2 := itoa_ne_nil v
  rw [he] at h1 h2
  have := List.length_pos_iff.2 h2
  omega
def signed (l : List UInt8) (n : Nat) : Int := if sgn l = true then -(n : Int) else n
theorem readDec_val {l : List UInt8} {v : Int} (h : readDec l = some v) : v = signed l (dval 0 (part l l.length)) := by
  obtain ⟨h1, h2⟩ := itoa_part (readDec_some h).2
  rw [h1, (decDigits_all _).2.1]
  unfold signed
  split
  · rename_i hs; have := h2.1 hs; omega
  · rename_i hs
    have : ¬ v < 0 := fun hv => hs (h2.2 hv)
    omega
theorem dval_lt (l : List UInt8) : ∀ a, l.all isDig = true → dval a l < (a + 1) * 10 ^ l.length := by
  induction l with
  | nil => intro a _; rw [dval_nil]; simp
  | cons c r ih =>
    intro a h
    rw [List.all_cons, Bool.and_eq_true] at h
    rw [dval_cons]
    have h1 := ih (dstep a c) h.2
    have h2 : dstep a c + 1 ≤ (a + 1) * 10 := by
      have := isDig_iff h.1
      unfold dstep
      omega
    rw [List.length_cons, Nat.pow_succ, Nat.mul_comm (10 ^ r.length) 10, ← Nat.mul_assoc]
    exact Nat.lt_of_lt_of_le h1 (Nat.mul_le_mul_right _ h2)
def rdInt (o : Option Int) : Int := o.getD 0
def rdOk (o : Option Int) : Bool := o.isSome
end Go.Proofs.YtikhofcjkcbpbaaDoor
