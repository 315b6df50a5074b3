/- The text of a core: plain facts. No condition. -/
import Derived.Test.YtikhofcjkcbpbaaDoorCoPlain
import Derived.Test.YtikhofcjkcbpbaaDoorTxJ
import Derived.Test.YtikhofcjkcbpbaaDoorTwo
namespace Go.Proofs.YtikhofcjkcbpbaaDoor
open Go.RowKit
set_option linter.unusedVariables false

theorem inR_iff {n a b : Int} : inR n a b = true ↔ a ≤ n ∧ n ≤ b := by
  unfold inR
  constructor
  · intro h; simpa using h
  · intro h; simpa using h
theorem lint_in {n a b : Int} (h : inR n a b = true) (ha : -2147483648 ≤ a) (hb : b ≤ 2147483647) : lint n = true := by
  rw [inR_iff] at h
  simp only [lint, Bool.and_eq_true, decide_eq_true_eq]
  omega
theorem lint_lo {n : Int} (h : lint n = true) : -9223372036854775808 ≤ n ∧ n ≤ 9223372036854775807 := by
  simp only [lint, Bool.and_eq_true, decide_eq_true_eq] at h
  omega
abbrev blank : ByteArray := ⟨#[32]⟩
/-- Decimal texts with blanks between them. -/
def decs : List Int → ByteArray
  | [] => ⟨#[]⟩
  | x :: r => addAll blank (dec x) (r.map dec)
theorem decs_take {ds : List Int} {j : Nat} {x : Int} (h : ds[j]? = some x) (hj : 0 < j) : decs (ds.take (j + 1)) = (decs (ds.take j) ++ blank) ++ dec x := by
  obtain ⟨hlt, he⟩ := List.getElem?_eq_some_iff.1 h
  rw [List.take_succ_eq_append_getElem hlt, he]
  cases ds with
  | nil => simp at hlt
  | cons y r =>
    obtain ⟨i, rfl⟩ : ∃ i, j = i + 1 := ⟨j - 1, by omega⟩
    simp only [List.take_succ_cons, List.cons_append, decs, List.map_append, List.map_cons, List.map_nil]
    rw [addAll_snoc, ByteArray.append_assoc]
theorem decs_one {ds : List Int} {x : Int} (h : ds[0]? = some x) : decs (ds.take 1) = dec x := by
  cases ds with
  | nil => simp at h
  | cons y r => simp only [List.getElem?_cons_zero, Option.some.injEq] at h; subst h; rfl
theorem coData_get : ∀ {l : List Int} {j : Nat} {x : Int}, coData l = true → l[j]? = some x → lint x = true
  | [], j, x, _, h => by simp at h
  | y :: l, 0, x, g, h => by
    simp only [List.getElem?_cons_zero, Option.some.injEq] at h
    subst h
    simp only [coData, Bool.and_eq_true] at g
    exact lint_in g.1 (by decide) (by decide)
  | y :: l, j + 1, x, g, h => by
    simp only [coData, Bool.and_eq_true] at g
    exact coData_get g.2 (by simpa using h)
theorem szs_dec : ∀ {l : List Int}, coData l = true → szs (l.map dec) ≤ 11 * l.length
  | [], _ => by simp [szs]
  | y :: l, g => by
    have h0 := coData_get (j := 0) g rfl
    simp only [coData, Bool.and_eq_true] at g
    have h1 := szs_dec g.2
    have h2 := dec_size h0
    simp only [List.map_cons, szs, List.length_cons]
    omega
theorem decs_size {l : List Int} (g : coData l = true) : (decs l).size ≤ 12 * l.length := by
  cases l with
  | nil => exact Nat.le_refl _
  | cons y l =>
    have h0 := coData_get (j := 0) g rfl
    simp only [coData, Bool.and_eq_true] at g
    have h1 := szs_dec g.2
    have h2 := dec_size h0
    have e1 : blank.size = 1 := rfl
    rw [decs, addAll_size, e1, List.length_map, List.length_cons]
    omega
def fst1 (ts : List ByteArray) : ByteArray := ts.getD 0 ⟨#[]⟩
def snd1 (ts : List ByteArray) : ByteArray := ts.getD 1 ⟨#[]⟩
/-- The text of a node over those of its kids. -/
def nodeTxt (k v : Int) (ds : List Int) (ts : List ByteArray) : ByteArray :=
  if k = 1 then ⟨#[35]⟩ ++ dec v
  else if k = 2 then dec v
  else if k = 3 then (((((⟨#[40]⟩ ++ fst1 ts) ++ ⟨#[32]⟩) ++ opText v) ++ ⟨#[32]⟩) ++ snd1 ts) ++ ⟨#[41]⟩
  else if k = 4 then ⟨#[94]⟩ ++ fst1 ts
  else if k = 5 then ((((⟨#[40]⟩ ++ fst1 ts) ++ ⟨#[32]⟩) ++ snd1 ts) ++ ⟨#[41]⟩)
  else if k = 6 then ⟨#[33]⟩ ++ fst1 ts
  else if k = 7 then (((⟨#[40, 108, 101, 116, 32]⟩ ++ fst1 ts) ++ ⟨#[32, 105, 110, 32]⟩) ++ snd1 ts) ++ ⟨#[41]⟩
  else if k = 9 then (((⟨#[91]⟩ ++ decs ds) ++ ⟨#[58]⟩) ++ fst1 ts) ++ ⟨#[93]⟩
  else if k = 10 then (((⟨#[123]⟩ ++ decs ds) ++ ⟨#[58]⟩) ++ fst1 ts) ++ ⟨#[125]⟩
  else if k = 11 then ⟨#[64]⟩ ++ dec v
  else addAll blank (⟨#[60]⟩ ++ dec v) ts ++ ⟨#[62]⟩
mutual
def Co.text : Co → ByteArray
  | .mk k v ds ks => nodeTxt k v ds (Co.texts ks)
def Co.texts : List Co → List ByteArray
  | [] => []
  | t :: ts => Co.text t :: Co.texts ts
end
theorem Co.texts_length : ∀ ts : List Co, (Co.texts ts).length = ts.length
  | [] => rfl
  | t :: ts => by simp [Co.texts, Co.texts_length ts]
theorem Co.texts_snoc : ∀ (ts : List Co) (j : Nat) (t : Co), ts[j]? = some t → Co.texts (ts.take (j + 1)) = Co.texts (ts.take j) ++ [Co.text t]
  | [], j, t, h => by simp at h
  | u :: ts, 0, t, h => by simp at h; subst h; simp [Co.texts]
  | u :: ts, j + 1, t, h => by have := Co.texts_snoc ts j t (by simpa using h); simp [Co.texts, this]
theorem fst_le (ts : List ByteArray) : (fst1 ts).size ≤ szs ts := by
  have e : (⟨#[]⟩ : ByteArray).size = 0 := rfl
  cases ts with
  | nil => show (⟨#[]⟩ : ByteArray).size ≤ _; omega
  | cons a r => show a.size ≤ a.size + szs r; omega
theorem two_le (ts : List ByteArray) : (fst1 ts).size + (snd1 ts).size ≤ szs ts := by
  have e : (⟨#[]⟩ : ByteArray).size = 0 := rfl
  match ts with
  | [] => show (⟨#[]⟩ : ByteArray).size + (⟨#[]⟩ : ByteArray).size ≤ _; omega
  | [a] => show a.size + (⟨#[]⟩ : ByteArray).size ≤ a.size + 0; omega
  | a :: b :: r => show a.size + b.size ≤ a.size + (b.size + szs r); omega
theorem opText_le (n : Int) : (opText n).size ≤ 1 := by
  unfold opText
  repeat (split; exact Nat.le_refl _)
  exact Nat.zero_le _
theorem okCo_val {k v : Int} {ds : List Int} {n : Nat} (h : okCo k v ds n = true) : lint v = true ∧ coData ds = true := by
  simp only [okCo, Bool.and_eq_true] at h
  refine ⟨?_, h.2.2.2⟩
  have hv := h.2.2.1
  unfold coVal at hv
  split at hv
  · exact lint_in hv (by decide) (by decide)
  split at hv
  · exact lint_in hv (by decide) (by decide)
  split at hv
  · exact lint_in hv (by decide) (by decide)
  split at hv
  · exact lint_in hv (by decide) (by decide)
  split at hv
  · exact lint_in hv (by decide) (by decide)
  · simp only [decide_eq_true_eq] at hv; subst hv; decide
theorem nodeTxt_le {k v : Int} {ds : List Int} {ts : List ByteArray} (hv : lint v = true) (hd : coData ds = true) : (nodeTxt k v ds ts).size ≤ 32 + 12 * ds.length + ts.length + szs ts := by
  have h1 := dec_size hv
  have h2 := decs_size hd
  have h3 := fst_le ts
  have h4 := two_le ts
  have h5 := opText_le v
  have e1 : ∀ c : UInt8, (⟨#[c]⟩ : ByteArray).size = 1 := fun _ => rfl
  have e4 : (⟨#[40, 108, 101, 116, 32]⟩ : ByteArray).size = 5 := rfl
  have e5 : (⟨#[32, 105, 110, 32]⟩ : ByteArray).size = 4 := rfl
  unfold nodeTxt
  repeat' split
  all_goals first | omega | (simp only [ByteArray.size_append, e1, e4, e5, addAll_size]; omega)
mutual
theorem Co.text_le : ∀ t : Co, Co.good t = true → (Co.text t).size ≤ 64 * Co.bulk t + 32
  | .mk k v ds ks, hg => by
    simp only [Co.good, Bool.and_eq_true] at hg
    obtain ⟨h1, h2⟩ := okCo_val hg.1
    have h3 := Co.texts_le ks hg.2
    have h4 := nodeTxt_le (k := k) (ts := Co.texts ks) h1 h2
    rw [Co.texts_length] at h4
    have h5 := Co.bulks_length ks
    have h6 : ds.length ≤ In.bulks ds := In.bulks_length ds
    simp only [Co.text, Co.bulk]
    omega
theorem Co.texts_le : ∀ ts : List Co, Co.goods ts = true → szs (Co.texts ts) + 32 * ts.length ≤ 64 * Co.bulks ts
  | [], _ => by simp [Co.texts, szs]
  | t :: ts, hg => by
    simp only [Co.goods, Bool.and_eq_true] at hg
    have h1 := Co.text_le t hg.1
    have h2 := Co.texts_le ts hg.2
    simp only [Co.texts, szs, Co.bulks, List.length_cons]
    omega
end
theorem Co.text_small {t : Co} (hg : Co.good t = true) (h : Co.bulk t ≤ 1048576) : (Co.text t).size ≤ 67108928 := by have := Co.text_le t hg; omega
def coText (t : Co) : ByteArray := if Co.ok t then Co.text t else ⟨#[]⟩
theorem Co.ok_good' {t : Co} (h : Co.ok t = true) : Co.good t = true := by simp only [Co.ok, Bool.and_eq_true] at h; exact h.1
theorem okCo_cases {k v : Int} {ds : List Int} {n : Nat} (h : okCo k v ds n = true) : ((k = 1 ∨ k = 2 ∨ k = 11) ∧ n = 0) ∨ ((k = 3 ∨ k = 5 ∨ k = 7) ∧ n = 2) ∨ ((k = 4 ∨ k = 6) ∧ n = 1) ∨ (k = 8 ∧ n ≤ 3) ∨ ((k = 9 ∨ k = 10) ∧ n = 1 ∧ ds.length ≤ 4) := by
  simp only [okCo, Bool.and_eq_true] at h
  obtain ⟨h1, h2, -⟩ := h
  unfold coN at h1 h2
  split at h1
  · rename_i hk
    rw [if_pos hk] at h2
    rw [inR_iff] at h1 h2; dsimp only at h1 h2
    omega
  · rename_i hk0
    rw [if_neg hk0] at h2
    split at h1
    · rename_i hk
      rw [if_pos hk] at h2
      rw [inR_iff] at h1 h2; dsimp only at h1 h2
      omega
    · rename_i hk1
      rw [if_neg hk1] at h2
      split at h1
      · rename_i hk
        rw [if_pos hk] at h2
        rw [inR_iff] at h1 h2; dsimp only at h1 h2
        omega
      · rename_i hk2
        rw [if_neg hk2] at h2
        split at h1
        · rename_i hk
          rw [if_pos hk] at h2
          rw [inR_iff] at h1 h2; dsimp only at h1 h2
          omega
        · rename_i hk3
          rw [if_neg hk3] at h2
          split at h1
          · rename_i hk
            rw [if_pos hk] at h2
            rw [inR_iff] at h1 h2; dsimp only at h1 h2
            omega
          · rename_i hk4
            rw [if_neg hk4] at h2
            split at h1
            · rename_i hk
              rw [if_pos hk] at h2
              rw [inR_iff] at h1 h2; dsimp only at h1 h2
              omega
            · rw [inR_iff] at h1; dsimp only at h1
              omega
end Go.Proofs.YtikhofcjkcbpbaaDoor
