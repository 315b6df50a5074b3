/- Tokens: numbers; plain facts. No condition. -/
import Derived.Test.YtikhofcjkcbpbaaDoorDeP
import Derived.Test.YtikhofcjkcbpbaaDoorFour
namespace Go.Proofs.YtikhofcjkcbpbaaDoor
open Go.RowKit

/-- Digits without a leading zero, of a number up to 2147483648. -/
def numB (s : ByteArray) : Bool := decide (s.size ≤ 10) && (!(decide (1 < s.size) && decide (byteAt s 0 = 48)) && (s.data.toList.all isDig && decide (dval 0 s.data.toList ≤ 2147483648)))
def big31 : ByteArray := ⟨#[50, 49, 52, 55, 52, 56, 51, 54, 52, 56]⟩
def plainB (s : ByteArray) : Bool := match readDec s.data.toList with
  | some v => decide (0 ≤ v)
  | none => false
theorem decDigits_head0 : ∀ (u : Nat) (c : UInt8) (r : List UInt8), Lib.decDigits u = c :: r → c.toNat = 48 → u = 0 := by
  intro u
  induction u using Nat.strongRecOn with
  | _ u ih =>
    intro c r h hc
    by_cases hu : u < 10
    · rw [decDigits_small hu] at h
      simp only [List.cons.injEq] at h
      have := dgt_toNat u
      rw [h.1, hc] at this
      omega
    · rw [decDigits_big hu] at h
      obtain ⟨c', r', hr⟩ : ∃ c' r', Lib.decDigits (u / 10) = c' :: r' := by
        cases hd : Lib.decDigits (u / 10) with
        | nil => exact absurd hd (decDigits_all (u / 10)).2.2
        | cons a b => exact ⟨a, b, rfl⟩
      rw [hr] at h
      simp only [List.cons_append, List.cons.injEq] at h
      have := ih (u / 10) (by omega) c' r' hr (by rw [h.1]; exact hc)
      omega
theorem dgt_of {c : UInt8} {n : Nat} (h : isDig c = true) (hn : n % 10 = c.toNat - 48) : dgt n = c := by
  have h1 := isDig_iff h
  have h2 := dgt_toNat n
  apply UInt8.toNat_inj.1
  omega
theorem decDigits_dval : ∀ (k : Nat) (l : List UInt8), l.length = k → l ≠ [] → l.all isDig = true → (∀ c r, l = c :: r → r ≠ [] → c.toNat ≠ 48) → Lib.decDigits (dval 0 l) = l
  | 0, l, hk, hne, _, _ => absurd (List.length_eq_zero_iff.1 hk) hne
  | k + 1, l, hk, hne, hd, hz => by
    obtain ⟨r, c, rfl⟩ : ∃ r c, l = r ++ [c] := ⟨l.dropLast, l.getLast hne, (List.dropLast_concat_getLast hne).symm⟩
    rw [List.all_append, Bool.and_eq_true] at hd
    obtain ⟨hdr, hdc⟩ := hd
    have hc : isDig c = true := by simpa using hdc
    have hci := isDig_iff hc
    rw [dval_append, dval_one]
    by_cases hr : r = []
    · subst hr
      rw [dval_nil]
      rw [decDigits_small (by omega), dgt_of hc (by omega)]
      rfl
    · have ih := decDigits_dval k r (by simp at hk; omega) hr hdr (fun c' r' e hr' => hz c' (r' ++ [c]) (by rw [e]; rfl) (by simp))
      have hpos : dval 0 r ≠ 0 := by
        intro h0
        rw [h0, decDigits_zero] at ih
        obtain ⟨c', r', e⟩ : ∃ c' r', r = c' :: r' := by
          cases r with
          | nil => exact absurd rfl hr
          | cons a b => exact ⟨a, b, rfl⟩
        rw [e] at ih
        simp only [List.cons.injEq] at ih
        exact hz c' (r' ++ [c]) (by rw [e]; rfl) (by simp) (by rw [← ih.1]; rfl)
      generalize dval 0 r = a at ih hpos
      rw [decDigits_big (by omega), show (a * 10 + (c.toNat - 48)) / 10 = a by omega, ih, dgt_of hc (by omega)]
theorem byteAt_head {s : ByteArray} {c : UInt8} {r : List UInt8} (h : s.data.toList = c :: r) : byteAt s 0 = (c.toNat : Int) := by
  unfold byteAt
  rw [← Array.getElem?_toList, h]
  rfl
theorem numB_yes {s : ByteArray} (h1 : s.size ≤ 10) (h2 : ¬ (1 < s.size ∧ byteAt s 0 = 48)) (h3 : s.data.toList.all isDig = true) (h4 : dval 0 s.data.toList ≤ 2147483648) : numB s = true := by
  unfold numB
  simp only [Bool.and_eq_true, decide_eq_true_eq, Bool.not_eq_true', Bool.and_eq_false_iff, decide_eq_false_iff_not]
  exact ⟨h1, by by_cases h : 1 < s.size
                · exact Or.inr fun e => h2 ⟨h, e⟩
                · exact Or.inl h, h3, h4⟩
theorem numB_parts {s : ByteArray} (h : numB s = true) : s.size ≤ 10 ∧ ¬ (1 < s.size ∧ byteAt s 0 = 48) ∧ s.data.toList.all isDig = true ∧ dval 0 s.data.toList ≤ 2147483648 := by
  unfold numB at h
  simp only [Bool.and_eq_true, decide_eq_true_eq, Bool.not_eq_true', Bool.and_eq_false_iff, decide_eq_false_iff_not] at h
  exact ⟨h.1, fun ⟨a, b⟩ => h.2.1.elim (fun x => x a) (fun x => x b), h.2.2.1, h.2.2.2⟩
theorem plainB_iff {s : ByteArray} : plainB s = true ↔ ∃ v, readDec s.data.toList = some v ∧ 0 ≤ v := by
  unfold plainB
  split
  · rename_i v h; simp [h]
  · rename_i h; simp [h]
/-- Both sides' test of a number agree on a word that is not empty. -/
theorem num_same {s : ByteArray} (hs : 1 ≤ s.size) : (decide (s = big31) || plainB s) = numB s := by
  have hl : s.data.toList.length = s.size := rfl
  have hne : s.data.toList ≠ [] := by intro e; rw [e] at hl; simp at hl; omega
  apply Bool.eq_iff_iff.2
  rw [Bool.or_eq_true, decide_eq_true_eq, plainB_iff]
  constructor
  · rintro (rfl | ⟨v, hv, hv0⟩)
    · decide +kernel
    · obtain ⟨hlint, hit⟩ := readDec_some hv
      simp only [lint, Bool.and_eq_true, decide_eq_true_eq] at hlint
      have hd : Lib.decDigits v.natAbs = s.data.toList := by
        rw [← hit]
        unfold Lib.itoa
        rw [if_neg (by omega), show v.natAbs = v.toNat by omega]
      obtain ⟨ha, hval, -⟩ := decDigits_all v.natAbs
      rw [hd] at ha hval
      have hlen := decDigits_length 10 (u := v.natAbs) (by omega) (by omega)
      rw [hd, hl] at hlen
      refine numB_yes hlen ?_ ha (by rw [hval]; omega)
      rintro ⟨h1, h2⟩
      obtain ⟨c, r, e⟩ : ∃ c r, s.data.toList = c :: r := by
        cases h : s.data.toList with
        | nil => exact absurd h hne
        | cons a b => exact ⟨a, b, rfl⟩
      rw [byteAt_head e] at h2
      have h0 := decDigits_head0 v.natAbs c r (by rw [hd, e]) (by omega)
      rw [h0, decDigits_zero] at hd
      rw [← hd] at hl
      simp at hl
      omega
  · intro h
    obtain ⟨h1, h2, h3, h4⟩ := numB_parts h
    have hd := decDigits_dval s.size s.data.toList hl hne h3 (fun c r e hr h48 => h2 ⟨by
      rw [e] at hl
      have : 1 ≤ r.length := List.length_pos_iff.2 hr
      simp at hl; omega, by rw [byteAt_head e]; omega⟩)
    generalize dval 0 s.data.toList = n at h4 hd
    by_cases hn : n = 2147483648
    · left
      apply WideShapes.bytes_inj
      rw [← hd, hn]
      decide +kernel
    · right
      refine ⟨(n : Int), readDec_of (by simp only [lint, Bool.and_eq_true, decide_eq_true_eq]; omega) ?_, by omega⟩
      rw [← hd]
      unfold Lib.itoa
      rw [if_neg (by omega)]
      rfl
end Go.Proofs.YtikhofcjkcbpbaaDoor
