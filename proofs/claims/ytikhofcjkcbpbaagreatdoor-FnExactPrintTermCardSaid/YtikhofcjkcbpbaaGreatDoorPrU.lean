/- Merged texts: PrP PrQ PrJ PrS. No condition. -/
import Derived.Test.YtikhofcjkcbpbaaGreatDoorTmPlain
import Derived.Test.YtikhofcjkcbpbaaGreatDoorTyText
import Derived.Test.YtikhofcjkcbpbaaGreatDoorTwo
import Derived.Test.YtikhofcjkcbpbaaGreatDoorStL
import Derived.Test.YtikhofcjkcbpbaaGreatDoorTmValid
import Derived.Test.YtikhofcjkcbpbaaGreatDoorTmFits
import Derived.Test.YtikhofcjkcbpbaaGreatDoorDeI
import Derived.BigQuiet
/- was: PrP -/
namespace Go.Proofs.YtikhofcjkcbpbaaGreatDoor
open Go.RowKit
set_option linter.unusedVariables false

theorem ret_strB {w w' : World} {a b : ByteArray} (h : a = b) (hb : Below w.heap.size w w') : (Ending.returned (.string a) = .returned (.string b)) ∧ Below w.heap.size w w' := by subst h; exact ⟨rfl, hb⟩
theorem inR_iffP {n a b : Int} : inR n a b = true ↔ a ≤ n ∧ n ≤ b := by
  unfold inR
  constructor
  · intro h; simpa using h
  · intro h; simpa using h
theorem lint_inP {n a b : Int} (h : inR n a b = true) (ha : -2147483648 ≤ a) (hb : b ≤ 2147483647) : lint n = true := by
  rw [inR_iffP] at h
  simp only [lint, Bool.and_eq_true, decide_eq_true_eq]
  omega
theorem opText_leP (n : Int) : (opText n).size ≤ 1 := by
  unfold opText
  repeat (split; exact Nat.le_refl _)
  exact Nat.zero_le _
/-- The level of a node. -/
def tmLev (k u : Int) : Int := if k = 4 ∨ k = 7 ∨ k = 11 then 0 else if k = 3 then (if u = 5 ∨ u = 6 then 1 else if u = 1 ∨ u = 2 then 2 else 3) else if k = 5 then 4 else 5
theorem tmLev_in (k u : Int) : 0 ≤ tmLev k u ∧ tmLev k u ≤ 5 := by
  unfold tmLev
  split
  · omega
  split
  · split
    · omega
    split <;> omega
  split <;> omega
/-- Texts in brackets; nothing if there are none. -/
def brk (l : List ByteArray) : ByteArray := match l with
  | [] => ⟨#[]⟩
  | x :: r => (⟨#[91]⟩ ++ addAll ⟨#[44, 32]⟩ x r) ++ ⟨#[93]⟩
def prn (l : Int) (p : Int × ByteArray) : ByteArray := if p.1 < l then (⟨#[40]⟩ ++ p.2) ++ ⟨#[41]⟩ else p.2
def kid0 (ts : List (Int × ByteArray)) : Int × ByteArray := ts.getD 0 (5, ⟨#[]⟩)
def kid1 (ts : List (Int × ByteArray)) : Int × ByteArray := ts.getD 1 (5, ⟨#[]⟩)
def kid2 (ts : List (Int × ByteArray)) : Int × ByteArray := ts.getD 2 (5, ⟨#[]⟩)
abbrev semi : ByteArray := ⟨#[59, 32]⟩
def opLeft (u : Int) : Int := if tmLev 3 u = 1 then 2 else tmLev 3 u
/-- The text of a node over its kids' levels and texts. -/
def tmTxt (k u : Int) (n : ByteArray) (t : Ty) (ns : List ByteArray) (ts : List (Int × ByteArray)) : ByteArray :=
  if k = 2 then (if u < 0 then (⟨#[40]⟩ ++ dec u) ++ ⟨#[41]⟩ else dec u)
  else if k = 3 then (((prn (opLeft u) (kid0 ts) ++ ⟨#[32]⟩) ++ opText u) ++ ⟨#[32]⟩) ++ prn (tmLev 3 u + 1) (kid1 ts)
  else if k = 4 then ((((⟨#[92]⟩ ++ n) ++ ⟨#[58]⟩) ++ Ty.text t) ++ ⟨#[46, 32]⟩) ++ prn 0 (kid0 ts)
  else if k = 5 then (prn 4 (kid0 ts) ++ ⟨#[32]⟩) ++ prn 5 (kid1 ts)
  else if k = 6 then ⟨#[33]⟩ ++ prn 5 (kid0 ts)
  else if k = 7 then ((((⟨#[108, 101, 116, 32]⟩ ++ n) ++ ⟨#[32, 61, 32]⟩) ++ prn 0 (kid0 ts)) ++ ⟨#[32, 105, 110, 32]⟩) ++ prn 0 (kid1 ts)
  else if k = 8 then n ++ brk (ts.map (prn 0))
  else if k = 9 then (((⟨#[109, 97, 116, 99, 104, 32]⟩ ++ prn 0 (kid0 ts)) ++ ⟨#[32, 123, 32]⟩) ++ joinS semi ((ts.drop 1).map (prn 0))) ++ ⟨#[32, 125]⟩
  else if k = 10 then ((n ++ brk ns) ++ ⟨#[32, 45, 62, 32]⟩) ++ prn 0 (kid0 ts)
  else if k = 11 then ((((⟨#[105, 102, 32]⟩ ++ prn 0 (kid0 ts)) ++ ⟨#[32, 116, 104, 101, 110, 32]⟩) ++ prn 0 (kid1 ts)) ++ ⟨#[32, 101, 108, 115, 101, 32]⟩) ++ prn 0 (kid2 ts)
  else n
mutual
def Tm.text : Tm → ByteArray
  | .mk k u n t ns ks => tmTxt k u n t ns (Tm.texts ks)
def Tm.texts : List Tm → List (Int × ByteArray)
  | [] => []
  | .mk k u n t ns ks :: ts => (tmLev k u, Tm.text (.mk k u n t ns ks)) :: Tm.texts ts
end
def Tm.lev : Tm → Int
  | .mk k u _ _ _ _ => tmLev k u
def Tm.at (l : Int) (t : Tm) : ByteArray := prn l (Tm.lev t, Tm.text t)
theorem Tm.texts_cons (t : Tm) (ts : List Tm) : Tm.texts (t :: ts) = (Tm.lev t, Tm.text t) :: Tm.texts ts := by cases t; rw [Tm.texts]; rfl
theorem Tm.texts_length : ∀ ts : List Tm, (Tm.texts ts).length = ts.length
  | [] => rfl
  | t :: ts => by rw [Tm.texts_cons]; simp [Tm.texts_length ts]
theorem Tm.texts_get : ∀ (ts : List Tm) (j : Nat) (t : Tm), ts[j]? = some t → (Tm.texts ts)[j]? = some (Tm.lev t, Tm.text t)
  | [], j, t, h => by simp at h
  | u :: ts, 0, t, h => by simp only [List.getElem?_cons_zero, Option.some.injEq] at h; subst h; rw [Tm.texts_cons]; rfl
  | u :: ts, j + 1, t, h => by rw [Tm.texts_cons, List.getElem?_cons_succ]; exact Tm.texts_get ts j t (by simpa using h)
/-- The kids' texts, as they stand in lists. -/
def Tm.at0s (ts : List Tm) : List ByteArray := (Tm.texts ts).map (prn 0)
theorem Tm.at0s_snoc : ∀ (ts : List Tm) (j : Nat) (t : Tm), ts[j]? = some t → Tm.at0s (ts.take (j + 1)) = Tm.at0s (ts.take j) ++ [Tm.at 0 t]
  | [], j, t, h => by simp at h
  | u :: ts, 0, t, h => by
    simp only [List.getElem?_cons_zero, Option.some.injEq] at h
    subst h
    simp only [Tm.at0s, List.take_succ_cons, List.take_zero, Tm.texts_cons]
    rfl
  | u :: ts, j + 1, t, h => by
    have := Tm.at0s_snoc ts j t (by simpa using h)
    simp only [Tm.at0s, List.take_succ_cons, Tm.texts_cons, List.map_cons] at this ⊢
    rw [this]
    rfl
theorem Tm.at_0 (t : Tm) : Tm.at 0 t = Tm.text t := by
  obtain ⟨k, u, n, ty, ns, ks⟩ := t
  have := tmLev_in k u
  show (if tmLev k u < 0 then _ else _) = _
  rw [if_neg (by omega)]
theorem prn_size (l : Int) (p : Int × ByteArray) : (prn l p).size ≤ p.2.size + 2 := by
  have e1 : (⟨#[40]⟩ : ByteArray).size = 1 := rfl
  have e2 : (⟨#[41]⟩ : ByteArray).size = 1 := rfl
  unfold prn
  split
  · rw [ByteArray.size_append, ByteArray.size_append, e1, e2]; omega
  · omega
/-- The sizes of the kids' texts, four more each. -/
def szp : List (Int × ByteArray) → Nat
  | [] => 0
  | p :: r => p.2.size + 4 + szp r
theorem kid0_le (ts : List (Int × ByteArray)) (l : Int) : (prn l (kid0 ts)).size ≤ szp ts + 2 := by
  have e : (⟨#[]⟩ : ByteArray).size = 0 := rfl
  have h := prn_size l (kid0 ts)
  cases ts with
  | nil => have : (kid0 []).2.size = 0 := rfl; omega
  | cons a r => have : (kid0 (a :: r)).2.size = a.2.size := rfl; simp only [szp]; omega
theorem kid01_le (ts : List (Int × ByteArray)) (l m : Int) : (prn l (kid0 ts)).size + (prn m (kid1 ts)).size ≤ szp ts + 4 := by
  have h := prn_size l (kid0 ts)
  have h1 := prn_size m (kid1 ts)
  match ts with
  | [] => have a : (kid0 []).2.size = 0 := rfl; have b : (kid1 []).2.size = 0 := rfl; omega
  | [a] => have b : (kid0 [a]).2.size = a.2.size := rfl; have c : (kid1 [a]).2.size = 0 := rfl; simp only [szp]; omega
  | a :: b :: r => have c : (kid0 (a :: b :: r)).2.size = a.2.size := rfl; have d : (kid1 (a :: b :: r)).2.size = b.2.size := rfl; simp only [szp]; omega
theorem kid012_le (ts : List (Int × ByteArray)) : (prn 0 (kid0 ts)).size + (prn 0 (kid1 ts)).size + (prn 0 (kid2 ts)).size ≤ szp ts + 6 := by
  have h := prn_size 0 (kid0 ts)
  have h1 := prn_size 0 (kid1 ts)
  have h2 := prn_size 0 (kid2 ts)
  match ts with
  | [] => have a : (kid0 []).2.size = 0 := rfl; have b : (kid1 []).2.size = 0 := rfl; have c : (kid2 []).2.size = 0 := rfl; omega
  | [a] => have b : (kid0 [a]).2.size = a.2.size := rfl; have c : (kid1 [a]).2.size = 0 := rfl; have d : (kid2 [a]).2.size = 0 := rfl; simp only [szp]; omega
  | [a, b] => have c : (kid0 [a, b]).2.size = a.2.size := rfl; have d : (kid1 [a, b]).2.size = b.2.size := rfl; have e : (kid2 [a, b]).2.size = 0 := rfl; simp only [szp]; omega
  | a :: b :: e :: r => have c : (kid0 (a :: b :: e :: r)).2.size = a.2.size := rfl; have d : (kid1 (a :: b :: e :: r)).2.size = b.2.size := rfl; have f : (kid2 (a :: b :: e :: r)).2.size = e.2.size := rfl; simp only [szp]; omega
theorem szs_prn (ts : List (Int × ByteArray)) : szs (ts.map (prn 0)) + 2 * ts.length ≤ szp ts := by
  induction ts with
  | nil => exact Nat.le_refl _
  | cons a r ih => have := prn_size 0 a; simp only [List.map_cons, szs, szp, List.length_cons]; omega
theorem brk_size (l : List ByteArray) : (brk l).size ≤ 2 + szs l + 2 * l.length := by
  have e1 : (⟨#[91]⟩ : ByteArray).size = 1 := rfl
  have e2 : (⟨#[93]⟩ : ByteArray).size = 1 := rfl
  have e3 : (⟨#[44, 32]⟩ : ByteArray).size = 2 := rfl
  cases l with
  | nil => exact Nat.zero_le _
  | cons x r => simp only [brk, ByteArray.size_append, addAll_size, e1, e2, e3, szs, List.length_cons]; omega
theorem szs_names (l : List ByteArray) : szs l + l.length = Sr.bulks l := by
  induction l with
  | nil => rfl
  | cons x r ih => simp only [szs, List.length_cons, Sr.bulks, Sr.bulk]; omega
theorem szp_drop (ts : List (Int × ByteArray)) : (prn 0 (kid0 ts)).size + (joinS semi ((ts.drop 1).map (prn 0))).size ≤ szp ts + 2 := by
  have h := prn_size 0 (kid0 ts)
  cases ts with
  | nil => have a : (kid0 []).2.size = 0 := rfl; have b : (joinS semi ((([] : List (Int × ByteArray)).drop 1).map (prn 0))).size = 0 := rfl; omega
  | cons a r =>
    have c : (kid0 (a :: r)).2.size = a.2.size := rfl
    have h1 := joinS_size semi (r.map (prn 0))
    have h2 := szs_prn r
    have e : semi.size = 2 := rfl
    rw [e, List.length_map] at h1
    simp only [List.drop_succ_cons, List.drop_zero, szp]
    omega
theorem tmTxt_le {k u : Int} {n : ByteArray} {t : Ty} {ns : List ByteArray} {ts : List (Int × ByteArray)} (hu : lint u = true) : (tmTxt k u n t ns ts).size ≤ 40 + n.size + (Ty.text t).size + 3 * Sr.bulks ns + szp ts := by
  have h1 := dec_size hu
  have h2 := brk_size ns
  have h3 := szs_names ns
  have h4 := opText_leP u
  have h5 := brk_size (ts.map (prn 0))
  have h6 := szs_prn ts
  have h7 := szp_drop ts
  have h8 := kid012_le ts
  have h9 := fun l m => kid01_le ts l m
  have ha := fun l => kid0_le ts l
  rw [List.length_map] at h5
  have e1 : ∀ c : UInt8, (⟨#[c]⟩ : ByteArray).size = 1 := fun _ => rfl
  have e2 : ∀ c d : UInt8, (⟨#[c, d]⟩ : ByteArray).size = 2 := fun _ _ => rfl
  have e3 : ∀ a b c : UInt8, (⟨#[a, b, c]⟩ : ByteArray).size = 3 := fun _ _ _ => rfl
  have e4 : ∀ a b c d : UInt8, (⟨#[a, b, c, d]⟩ : ByteArray).size = 4 := fun _ _ _ _ => rfl
  have e6 : ∀ a b c d e f : UInt8, (⟨#[a, b, c, d, e, f]⟩ : ByteArray).size = 6 := fun _ _ _ _ _ _ => rfl
  unfold tmTxt
  split
  · split
    · simp only [ByteArray.size_append, e1]; omega
    · omega
  split
  · have := h9 (opLeft u) (tmLev 3 u + 1); simp only [ByteArray.size_append, e1]; omega
  split
  · have := ha 0; simp only [ByteArray.size_append, e1, e2]; omega
  split
  · have := h9 4 5; simp only [ByteArray.size_append, e1]; omega
  split
  · have := ha 5; simp only [ByteArray.size_append, e1]; omega
  split
  · have := h9 0 0; simp only [ByteArray.size_append, e3, e4]; omega
  split
  · simp only [ByteArray.size_append]; omega
  split
  · simp only [ByteArray.size_append, e2, e3, e6]; omega
  split
  · have := ha 0; simp only [ByteArray.size_append, e4]; omega
  split
  · simp only [ByteArray.size_append, e3, e6]; omega
  · omega
end Go.Proofs.YtikhofcjkcbpbaaGreatDoor
/- was: PrQ -/
namespace Go.Proofs.YtikhofcjkcbpbaaGreatDoor
open Go.RowKit
set_option linter.unusedVariables false

theorem joinS_snoc (sep x : ByteArray) {l : List ByteArray} (h : l ≠ []) : joinS sep (l ++ [x]) = (joinS sep l ++ sep) ++ x := by
  cases l with
  | nil => exact absurd rfl h
  | cons y r => rw [List.cons_append, joinS, joinS, addAll_snoc, ByteArray.append_assoc]
theorem joinS_one (sep x : ByteArray) : joinS sep ([] ++ [x]) = x := rfl
theorem brk_eq {l : List ByteArray} (h : l ≠ []) : brk l = (⟨#[91]⟩ ++ joinS ⟨#[44, 32]⟩ l) ++ ⟨#[93]⟩ := by
  cases l with
  | nil => exact absurd rfl h
  | cons y r => rfl
theorem addAll_ge (sep : ByteArray) (l : List ByteArray) (t : ByteArray) : t.size ≤ (addAll sep t l).size := by rw [addAll_size]; omega
theorem joinS_pos {sep : ByteArray} {l : List ByteArray} (h : l ≠ []) (hp : ∀ x ∈ l, 1 ≤ x.size) : 1 ≤ (joinS sep l).size := by
  cases l with
  | nil => exact absurd rfl h
  | cons y r => rw [joinS]; exact Nat.le_trans (hp y (by simp)) (addAll_ge _ _ _)
theorem isName_pos {n : ByteArray} (h : isNameB n = true) : 1 ≤ n.size := by
  simp only [isNameB, decide_eq_true_eq] at h
  exact h.1
theorem lower_pos {n : ByteArray} (h : isLowerB n = true) : 1 ≤ n.size := by
  simp only [isLowerB, Bool.and_eq_true] at h
  exact isName_pos h.1
theorem upper_pos {n : ByteArray} (h : isUpperB n = true) : 1 ≤ n.size := by
  simp only [isUpperB, Bool.and_eq_true] at h
  exact isName_pos h.1
theorem low_pos (ns : List ByteArray) : ∀ (l : List ByteArray) (j : Nat), lowFrom ns l j = true → ∀ x ∈ l, 1 ≤ x.size := by
  intro l
  induction l with
  | nil => intro j _ x hx; simp at hx
  | cons y r ih =>
    intro j h x hx
    simp only [lowFrom, Bool.and_eq_true] at h
    rcases List.mem_cons.1 hx with rfl | hx
    · exact lower_pos h.1.1
    · exact ih _ h.2 x hx
theorem Tm.good_parts {k u : Int} {n : ByteArray} {t : Ty} {ns : List ByteArray} {ks : List Tm} (h : Tm.good (.mk k u n t ns ks) = true) : okTm k u n t ns ks.length = true ∧ casesOk k 0 ks = true ∧ Tm.goods ks = true := by
  simpa only [Tm.good, Bool.and_eq_true] using h
theorem okTm_lint {k u : Int} {n : ByteArray} {t : Ty} {ns : List ByteArray} {m : Nat} (h : okTm k u n t ns m = true) : lint u = true := by
  simp only [okTm, tmFields, Bool.and_eq_true] at h
  have hu := h.2.2.2.2
  unfold tmNum at hu
  split at hu
  · exact lint_inP hu (by decide) (by decide)
  split at hu
  · exact lint_inP hu (by decide) (by decide)
  · simp only [decide_eq_true_eq] at hu; subst hu; decide
theorem okTm_cases {k u : Int} {n : ByteArray} {t : Ty} {ns : List ByteArray} {m : Nat} (h : okTm k u n t ns m = true) :
    (k = 1 ∧ m = 0 ∧ 1 ≤ n.size) ∨ (k = 2 ∧ m = 0) ∨ (k = 3 ∧ m = 2) ∨ (k = 4 ∧ m = 1 ∧ Ty.ok t = true) ∨ (k = 5 ∧ m = 2) ∨ (k = 6 ∧ m = 1) ∨ (k = 7 ∧ m = 2) ∨ (k = 8 ∧ m ≤ 3 ∧ 1 ≤ n.size) ∨ (k = 9 ∧ 2 ≤ m ∧ m ≤ 5) ∨ (k = 10 ∧ m = 1 ∧ ns.length ≤ 3 ∧ lowFrom ns ns 0 = true) ∨ (k = 11 ∧ m = 3) := by
  simp only [okTm, tmFields, Bool.and_eq_true] at h
  obtain ⟨hm, hn, ht, hns, -⟩ := h
  rw [inR_iffP] at hm
  unfold tmN at hm
  split at hm
  · rename_i hk
    dsimp only at hm
    rcases hk with rfl | rfl
    · left; refine ⟨rfl, by omega, lower_pos (by simpa [tmName] using hn)⟩
    · right; left; exact ⟨rfl, by omega⟩
  split at hm
  · rename_i hk
    dsimp only at hm
    rcases hk with rfl | rfl | rfl
    · right; right; right; left; exact ⟨rfl, by omega, by simpa [tmType] using ht⟩
    · right; right; right; right; right; left; exact ⟨rfl, by omega⟩
    · right; right; right; right; right; right; right; right; right; left
      have : ns.length ≤ 3 ∧ lowFrom ns ns 0 = true := by simpa [tmNames] using hns
      exact ⟨rfl, by omega, this.1, this.2⟩
  split at hm
  · rename_i hk
    dsimp only at hm
    rcases hk with rfl | rfl | rfl
    · right; right; left; exact ⟨rfl, by omega⟩
    · right; right; right; right; left; exact ⟨rfl, by omega⟩
    · right; right; right; right; right; right; left; exact ⟨rfl, by omega⟩
  split at hm
  · rename_i hk
    dsimp only at hm
    subst hk
    right; right; right; right; right; right; right; left
    exact ⟨rfl, by omega, upper_pos (by simpa [tmName] using hn)⟩
  split at hm
  · rename_i hk
    dsimp only at hm
    subst hk
    right; right; right; right; right; right; right; right; left
    exact ⟨rfl, by omega, by omega⟩
  split at hm
  · rename_i hk
    dsimp only at hm
    subst hk
    right; right; right; right; right; right; right; right; right; right
    exact ⟨rfl, by omega⟩
  · dsimp only at hm; omega
theorem Ty.ok_text_pos {t : Ty} (h : Ty.ok t = true) : 1 ≤ (Ty.text t).size := by
  have hg : Ty.good t = true := by simp only [Ty.ok, Bool.and_eq_true] at h; exact h.1
  obtain ⟨k, n, ks⟩ := t
  simp only [Ty.good, Bool.and_eq_true] at hg
  have hok := hg.2
  have e1 : ∀ c : UInt8, (⟨#[c]⟩ : ByteArray).size = 1 := fun _ => rfl
  have e3 : (⟨#[73, 110, 116]⟩ : ByteArray).size = 3 := rfl
  have e4 : (⟨#[32, 45, 62, 32]⟩ : ByteArray).size = 4 := rfl
  unfold okNode at hok
  split at hok
  · rename_i hk; subst hk; rw [Ty.text, if_pos rfl, e3]; omega
  split at hok
  · rename_i hk; subst hk
    rw [Ty.text, if_neg (by omega), if_neg (by omega), if_neg (by omega)]
    simp only [Bool.and_eq_true] at hok
    exact upper_pos hok.1
  split at hok
  · rename_i hk; subst hk
    have hl : ks.length = 2 := by simp only [Bool.and_eq_true, decide_eq_true_eq] at hok; omega
    match ks, hl with
    | [a, b], _ =>
      rw [Ty.text, if_neg (by omega), if_pos rfl]
      simp only [Ty.texts, arrow, ByteArray.size_append, e4]
      omega
  split at hok
  · rename_i hk; subst hk
    have hl : ks.length = 1 := by simp only [Bool.and_eq_true, decide_eq_true_eq] at hok; omega
    match ks, hl with
    | [a], _ =>
      rw [Ty.text, if_neg (by omega), if_neg (by omega), if_pos rfl]
      simp only [Ty.texts, banged, ByteArray.size_append, e1]
      omega
  · cases hok
theorem Tm.text_pos {t : Tm} (h : Tm.good t = true) : 1 ≤ (Tm.text t).size := by
  obtain ⟨k, u, n, ty, ns, ks⟩ := t
  obtain ⟨hok, -, -⟩ := Tm.good_parts h
  have e1 : ∀ c : UInt8, (⟨#[c]⟩ : ByteArray).size = 1 := fun _ => rfl
  have e2 : ∀ c d : UInt8, (⟨#[c, d]⟩ : ByteArray).size = 2 := fun _ _ => rfl
  have e3 : ∀ a b c : UInt8, (⟨#[a, b, c]⟩ : ByteArray).size = 3 := fun _ _ _ => rfl
  have e4 : ∀ a b c d : UInt8, (⟨#[a, b, c, d]⟩ : ByteArray).size = 4 := fun _ _ _ _ => rfl
  have e6 : ∀ a b c d e f : UInt8, (⟨#[a, b, c, d, e, f]⟩ : ByteArray).size = 6 := fun _ _ _ _ _ _ => rfl
  have hd : 1 ≤ (dec u).size := List.length_pos_iff.2 (itoa_ne_nil u)
  rw [Tm.text]
  rcases okTm_cases hok with ⟨rfl, _, h⟩ | ⟨rfl, _⟩ | ⟨rfl, _⟩ | ⟨rfl, _⟩ | ⟨rfl, _⟩ | ⟨rfl, _⟩ | ⟨rfl, _⟩ | ⟨rfl, _, h⟩ | ⟨rfl, _⟩ | ⟨rfl, _⟩ | ⟨rfl, _⟩
  · exact h
  · show 1 ≤ (if u < 0 then (⟨#[40]⟩ ++ dec u) ++ ⟨#[41]⟩ else dec u).size
    split
    · simp only [ByteArray.size_append, e1]; omega
    · exact hd
  · show 1 ≤ ((((prn (opLeft u) (kid0 (Tm.texts ks)) ++ ⟨#[32]⟩) ++ opText u) ++ ⟨#[32]⟩) ++ prn (tmLev 3 u + 1) (kid1 (Tm.texts ks))).size
    simp only [ByteArray.size_append, e1]; omega
  · show 1 ≤ (((((⟨#[92]⟩ ++ n) ++ ⟨#[58]⟩) ++ Ty.text ty) ++ ⟨#[46, 32]⟩) ++ prn 0 (kid0 (Tm.texts ks))).size
    simp only [ByteArray.size_append, e1]; omega
  · show 1 ≤ ((prn 4 (kid0 (Tm.texts ks)) ++ ⟨#[32]⟩) ++ prn 5 (kid1 (Tm.texts ks))).size
    simp only [ByteArray.size_append, e1]; omega
  · show 1 ≤ (⟨#[33]⟩ ++ prn 5 (kid0 (Tm.texts ks))).size
    simp only [ByteArray.size_append, e1]; omega
  · show 1 ≤ (((((⟨#[108, 101, 116, 32]⟩ ++ n) ++ ⟨#[32, 61, 32]⟩) ++ prn 0 (kid0 (Tm.texts ks))) ++ ⟨#[32, 105, 110, 32]⟩) ++ prn 0 (kid1 (Tm.texts ks))).size
    simp only [ByteArray.size_append, e4]; omega
  · show 1 ≤ (n ++ brk ((Tm.texts ks).map (prn 0))).size
    simp only [ByteArray.size_append]; omega
  · show 1 ≤ ((((⟨#[109, 97, 116, 99, 104, 32]⟩ ++ prn 0 (kid0 (Tm.texts ks))) ++ ⟨#[32, 123, 32]⟩) ++ joinS semi (((Tm.texts ks).drop 1).map (prn 0))) ++ ⟨#[32, 125]⟩).size
    simp only [ByteArray.size_append, e2]; omega
  · show 1 ≤ (((n ++ brk ns) ++ ⟨#[32, 45, 62, 32]⟩) ++ prn 0 (kid0 (Tm.texts ks))).size
    simp only [ByteArray.size_append, e4]; omega
  · show 1 ≤ (((((⟨#[105, 102, 32]⟩ ++ prn 0 (kid0 (Tm.texts ks))) ++ ⟨#[32, 116, 104, 101, 110, 32]⟩) ++ prn 0 (kid1 (Tm.texts ks))) ++ ⟨#[32, 101, 108, 115, 101, 32]⟩) ++ prn 0 (kid2 (Tm.texts ks))).size
    simp only [ByteArray.size_append, e3]; omega
theorem prn_pos {l : Int} {p : Int × ByteArray} (h : 1 ≤ p.2.size) : 1 ≤ (prn l p).size := by
  have e1 : (⟨#[40]⟩ : ByteArray).size = 1 := rfl
  unfold prn
  split
  · simp only [ByteArray.size_append, e1]; omega
  · exact h
theorem Tm.at0s_pos : ∀ (ts : List Tm), Tm.goods ts = true → ∀ x ∈ Tm.at0s ts, 1 ≤ x.size
  | [], _, x, h => by simp [Tm.at0s, Tm.texts] at h
  | t :: ts, hg, x, h => by
    simp only [Tm.goods, Bool.and_eq_true] at hg
    simp only [Tm.at0s, Tm.texts_cons, List.map_cons] at h
    rcases List.mem_cons.1 h with rfl | h
    · exact prn_pos (Tm.text_pos hg.1)
    · exact Tm.at0s_pos ts hg.2 x h
mutual
theorem Tm.text_le : ∀ t : Tm, Tm.good t = true → (Tm.text t).size ≤ 64 * Tm.bulk t + 60
  | .mk k u n t ns ks, hg => by
    obtain ⟨hok, _, hgs⟩ := Tm.good_parts hg
    have h1 := tmTxt_le (k := k) (n := n) (t := t) (ns := ns) (ts := Tm.texts ks) (okTm_lint hok)
    have h2 := Tm.texts_le ks hgs
    have h3 := Ty.text_le t
    have h4 := Ty.cnt_le t
    simp only [Tm.text, Tm.bulk]
    omega
theorem Tm.texts_le : ∀ ts : List Tm, Tm.goods ts = true → szp (Tm.texts ts) ≤ 64 * Tm.bulks ts
  | [], _ => by simp [Tm.texts, szp]
  | t :: ts, hg => by
    simp only [Tm.goods, Bool.and_eq_true] at hg
    have h1 := Tm.text_le t hg.1
    have h2 := Tm.texts_le ts hg.2
    rw [Tm.texts_cons]
    simp only [szp, Tm.bulks]
    omega
end
theorem Tm.text_small {t : Tm} (hg : Tm.good t = true) (h : Tm.bulk t ≤ 1048576) : (Tm.text t).size ≤ 67108930 := by have := Tm.text_le t hg; omega
theorem Tm.at_small {t : Tm} (l : Int) (hg : Tm.good t = true) (h : Tm.bulk t ≤ 1048576) : (Tm.at l t).size ≤ 67108932 := by have h1 := Tm.text_small hg h; have h2 := prn_size l (Tm.lev t, Tm.text t); have h3 : (Tm.lev t, Tm.text t).2.size = (Tm.text t).size := rfl; unfold Tm.at; omega
theorem casesOk_get {k : Int} : ∀ {i : Nat} {ts : List Tm} {j : Nat} {t : Tm}, casesOk k i ts = true → ts[j]? = some t → Tm.isCase t = (decide (k = 9) && decide (0 < i + j))
  | i, [], j, t, _, h => by simp at h
  | i, u :: ts, 0, t, hc, h => by
    simp only [List.getElem?_cons_zero, Option.some.injEq] at h
    subst h
    simp only [casesOk, Bool.and_eq_true, beq_iff_eq] at hc
    exact hc.1
  | i, u :: ts, j + 1, t, hc, h => by
    simp only [casesOk, Bool.and_eq_true] at hc
    have := casesOk_get hc.2 (j := j) (t := t) (by simpa using h)
    rw [this, show i + 1 + j = i + (j + 1) by omega]
end Go.Proofs.YtikhofcjkcbpbaaGreatDoor
/- was: PrJ -/
namespace Go.Proofs.YtikhofcjkcbpbaaGreatDoor
open Go.ChangeShapes Go.WideShapes Go.ChangeAt Go.RowKit Go.BigFrame
open Go.Sort (grow)
set_option linter.unusedVariables false

theorem szs_take : ∀ (l : List ByteArray) (j : Nat), szs (l.take j) ≤ szs l
  | [], j => by simp
  | x :: r, 0 => by simp [szs]
  | x :: r, j + 1 => by have := szs_take r j; simp only [List.take_succ_cons, szs]; omega
/-- A list of strings lies in a slice. -/
def StrIn (w : World) (ns : List ByteArray) (v : Value) : Prop := ∃ (a : Option Addr) (c : Nat), v = .slice a ns.length c ∧ ns.length ≤ c ∧ (0 < ns.length → ∃ b o, a = some ⟨b, o, none⟩ ∧ b < w.heap.size ∧ ∀ (i : Nat) (s : ByteArray), ns[i]? = some s → w.cell? ⟨b, o + i, none⟩ = some (.string s))
theorem StrIn.of_rd {w : World} {ns : List ByteArray} {v : Value} (h : RdL w (Sr.ds ns) v) : StrIn w ns v := by
  obtain ⟨a, c, e, h2, h3, h4⟩ := h.eSr
  refine ⟨a, c, e, h2, fun hp => ?_⟩
  obtain ⟨b, o, e, hl, hc⟩ := h4 hp
  exact ⟨b, o, e, hl, fun i s hi => (hc i s hi).1⟩
theorem StrIn.of_own {w : World} {B : Nat} {v : Value} {ns : List ByteArray} (h : OwnStr w B v ns) : StrIn w ns v := by
  rcases h.2 with ⟨rfl, hz⟩ | ⟨g, cap, cur, rfl, -, hg, hnc, -⟩
  · exact ⟨none, 0, by rw [hz], by omega, fun hp => absurd hz (by omega)⟩
  · exact ⟨_, cap, rfl, hnc, fun _ => ⟨g, 0, rfl, (Array.getElem?_eq_some_iff.1 hg).1, fun i s hi => OwnStr.cells h i s hi⟩⟩
theorem StrIn.below {w w' : World} {ns : List ByteArray} {v : Value} (h : StrIn w ns v) (hb : Below w.heap.size w w') : StrIn w' ns v := by
  obtain ⟨a, c, e, h2, h4⟩ := h
  refine ⟨a, c, e, h2, fun hp => ?_⟩
  obtain ⟨b, o, e, hl, hc⟩ := h4 hp
  exact ⟨b, o, e, Nat.lt_of_lt_of_le hl hb.size, fun i s hi => (hb.cell (p := ⟨b, o + i, none⟩) hl).trans (hc i s hi)⟩
theorem join_in {sep : ByteArray} {w : World} {v : Value} {xs : List ByteArray} (ho : StrIn w xs v) (hN : xs.length ≤ 1048576) (hs : sep.size ≤ 16) (hz : szs xs ≤ 1099511627776) :
    Calls Tryz.prog 40 #[v, .string sep] w fun e w' => e = .returned (.string (joinS sep xs)) ∧ Below w.heap.size w w' := by
  have hlen : (Lib.join (xs.map (·.data.toList)) sep.data.toList).length ≤ 140737488355328 := by
    have h1 := joinS_size sep xs
    have h2 : (Lib.join (xs.map (·.data.toList)) sep.data.toList).length = (joinS sep xs).size := by rw [← joinS_eq]; rfl
    have h3 : sep.size * xs.length ≤ 16 * 1048576 := Nat.mul_le_mul hs hN
    omega
  obtain ⟨a, c, rfl, hc, h4⟩ := ho
  by_cases hx : xs = []
  · subst hx
    exact (Tryz.strings_Join_none a c sep w).mono fun e w' ⟨he, hw⟩ => ⟨he, by subst hw; exact Below.refl _ _⟩
  · obtain ⟨b, o, rfl, hb, hcl⟩ := h4 (List.length_pos_iff.2 hx)
    refine (Tryz.strings_Join b o c xs sep w hcl hb (by omega) hc hlen).mono fun e w' ⟨he, hw⟩ => ⟨?_, hw⟩
    rw [he, joinS_eq]
set_option maxRecDepth 100000 in
theorem impl_brk {w : World} {v : Value} {xs : List ByteArray} (ho : StrIn w xs v) (hN : xs.length ≤ 1048576) (hz : szs xs ≤ 1000000000) :
    Calls Tryz.prog 38 #[v] w fun e w' => e = .returned (.string (brk xs)) ∧ Below w.heap.size w w' := by
  have HJ := hid (join_in (sep := ⟨#[44, 32]⟩) ho hN (by decide) (by omega))
  have hjz := joinS_size ⟨#[44, 32]⟩ xs
  have e2 : (⟨#[44, 32]⟩ : ByteArray).size = 2 := rfl
  rw [e2] at hjz
  obtain ⟨a, c, rfl, -⟩ := ho
  by_cases hx : xs = []
  case pos =>
    subst hx
    clear HJ hjz
    go_enter Tryz.func38, Tryz.ntmps38
    go_wp2_with fail
    go_ret
    exact ⟨rfl, Below.refl _ _⟩
  case neg =>
    have HB := hid (brk_eq hx)
    have hl := List.length_pos_iff.2 hx
    generalize hJ : joinS ⟨#[44, 32]⟩ xs = J at HJ HB hjz
    have hjj : J.size ≤ 1100000000 := by omega
    have e1 : (⟨#[91]⟩ : ByteArray).size = 1 := rfl
    have e3 : ((⟨#[91]⟩ : ByteArray) ++ J).size = 1 + J.size := by rw [ByteArray.size_append, e1]
    have e4 : (⟨#[93]⟩ : ByteArray).size = 1 := rfl
    clear hx hJ hjz
    go_enter Tryz.func38, Tryz.ntmps38
    go_wp2_with fail
    refine HJ.out.mono ?_
    rintro e w1 ⟨rfl, hb⟩
    have HB1 := hid hb
    clear hb
    go_wp2_with fail
    go_ret
    exact ret_strB HB.out.symm HB1.out
theorem isEmpty_str {x : ByteArray} (h : 1 ≤ x.size) : x.toList ≠ [] := by
  rw [ByteArray.toList_eq]
  intro e
  have : x.data.toList.length = x.size := rfl
  rw [e] at this
  simp at this
  omega
set_option maxRecDepth 100000 in
set_option maxHeartbeats 1000000 in
theorem spec_Names (ns : List ByteArray) (v : Value) (w : World) (hN : ns.length ≤ 1048576) (hz : szs ns ≤ 1000000000) (hp : ∀ x ∈ ns, 1 ≤ x.size) (hr : StrIn w ns v) :
    Calls Tryz.prog 59 #[v] w fun e w' => e = .returned (.string (brk ns)) ∧ Below w.heap.size w w' := by
  obtain ⟨a, c, rfl, hc, h4⟩ := hr
  have H4 := hid h4
  have e2 : (⟨#[44, 32]⟩ : ByteArray).size = 2 := rfl
  have HTK := hid (show ∀ j, (joinS ⟨#[44, 32]⟩ (ns.take j)).size ≤ 1100000000 from fun j => by
    have h1 := joinS_size ⟨#[44, 32]⟩ (ns.take j)
    have h2 := szs_take ns j
    rw [e2, List.length_take] at h1
    omega)
  have HPO := hid (fun (h : ns ≠ []) => joinS_pos (sep := ⟨#[44, 32]⟩) h hp)
  clear h4 hp hz
  go_enter Tryz.func59, Tryz.ntmps59
  go_wp2_with fail
  go_loopw [3, 4] (fun t i wr => ∃ (j : Nat) (x : ByteArray), j ≤ ns.length ∧ i = .int .i64 j ∧ t = .string x ∧ x.size ≤ 1100000000 ∧ Hid (x = joinS ⟨#[44, 32]⟩ (ns.take j)) ∧ w = wr) (fun _ i _ => ns.length - (intOf i).toNat)
  case atStart => exact ⟨0, ⟨#[]⟩, by omega, rfl, rfl, by decide, hid rfl, rfl⟩
  case round =>
    obtain ⟨j, x, hj, rfl, rfl, hx, HX, rfl⟩ := hrel
    by_cases hlt : j < ns.length
    case neg =>
      have HE := hid (show x = joinS ⟨#[44, 32]⟩ ns by rw [HX.out, List.take_of_length_le (by omega)])
      by_cases hne : ns = []
      case pos =>
        have e0 : x = ⟨#[]⟩ := by rw [HE.out, hne]; rfl
        have HZ := hid (show brk ns = ⟨#[]⟩ by rw [hne]; rfl)
        subst e0
        clear hne hj
        go_wp2_with fail
        go_ret
        exact ret_strB HZ.out.symm (Below.refl _ _)
      case neg =>
        have HZ := hid (show brk ns = (⟨#[91]⟩ ++ x) ++ ⟨#[93]⟩ by rw [brk_eq hne, HE.out])
        have hxp : 1 ≤ x.size := by rw [HE.out]; exact HPO.out hne
        have hxe := isEmpty_str hxp
        have hxl : (x.toList == []) = false := by simpa using hxe
        have e1 : (⟨#[91]⟩ : ByteArray).size = 1 := rfl
        have e3 : ((⟨#[91]⟩ : ByteArray) ++ x).size = 1 + x.size := by rw [ByteArray.size_append, e1]
        have e4 : (⟨#[93]⟩ : ByteArray).size = 1 := rfl
        clear hne
        go_wp2_with fail
        go_ret
        exact ret_strB HZ.out.symm (Below.refl _ _)
    case pos =>
      obtain ⟨b, o, rfl, hbl, hall⟩ := H4.out (by omega)
      obtain ⟨s, hs⟩ : ∃ s, ns[j]? = some s := ⟨_, List.getElem?_eq_getElem hlt⟩
      have d0 := hall j s hs
      have htk : ns.take (j + 1) = ns.take j ++ [s] := by
        obtain ⟨hlt', he⟩ := List.getElem?_eq_some_iff.1 hs
        rw [List.take_succ_eq_append_getElem hlt', he]
      by_cases hj0 : j = 0
      case pos =>
        subst hj0
        have e0 : x = ⟨#[]⟩ := by rw [HX.out, List.take_zero]; rfl
        subst e0
        rw [Nat.add_zero] at d0
        have HE := hid (show (⟨#[]⟩ : ByteArray) ++ s = joinS ⟨#[44, 32]⟩ (ns.take (0 + 1)) by rw [htk, List.take_zero, joinS_one]; exact WideShapes.bytes_inj (by rw [data_app]; simp))
        have hes : ((⟨#[]⟩ : ByteArray) ++ s).size ≤ 1100000000 := by rw [HE.out]; exact HTK.out 1
        have hss : s.size ≤ 1100000000 := by rw [ByteArray.size_append] at hes; omega
        clear hall hs htk
        go_wp2_with fail
        go_roundw
        case rel => exact ⟨1, _, by omega, by go_num, rfl, hes, HE, by first | rfl | trivial⟩
        case measure => first | (simp [intOf]; done) | (simp [intOf]; omega)
      case neg =>
        have gj : decide (0 < j) = true := decide_eq_true (by omega)
        have hne : ns.take j ≠ [] := by intro h; have h2 : (ns.take j).length = 0 := (by rw [h]; rfl); rw [List.length_take] at h2; omega
        have HE := hid (show (x ++ ⟨#[44, 32]⟩) ++ s = joinS ⟨#[44, 32]⟩ (ns.take (j + 1)) by rw [htk, joinS_snoc _ _ hne, HX.out])
        have hes : ((x ++ ⟨#[44, 32]⟩) ++ s).size ≤ 1100000000 := by rw [HE.out]; exact HTK.out (j + 1)
        have e3 : (x ++ (⟨#[44, 32]⟩ : ByteArray)).size = x.size + 2 := by rw [ByteArray.size_append, e2]
        have hss : s.size ≤ 1100000000 := by rw [ByteArray.size_append] at hes; omega
        clear hall hs htk hne
        go_wp2_with fail
        go_roundw
        case rel => exact ⟨j + 1, _, by omega, by go_num, rfl, hes, HE, by first | rfl | trivial⟩
        case measure => first | (simp [intOf]; done) | (simp [intOf]; omega)
theorem spec_Level (k1 u1 : Int) (b1 o1 : Nat) (w : World) (x0 : w.cell? ⟨b1, o1, none⟩ = some (.int .i64 k1)) (x1 : w.cell? ⟨b1, o1 + 1, none⟩ = some (.int .i64 u1)) :
    Calls Tryz.prog 46 #[.pointer (some ⟨b1, o1, none⟩)] w fun e w' => e = .returned (.int .i64 (tmLev k1 u1)) ∧ w = w' := by
  by_cases h4 : k1 = 4
  case pos =>
    subst h4
    have HL := hid (show tmLev 4 u1 = 0 by unfold tmLev; simp)
    go_enter Tryz.func46, Tryz.ntmps46
    go_wp2_with fail
    go_ret
    exact ⟨ret_int HL.out.symm, rfl⟩
  case neg =>
  by_cases h7 : k1 = 7
  case pos =>
    subst h7
    have HL := hid (show tmLev 7 u1 = 0 by unfold tmLev; simp)
    go_enter Tryz.func46, Tryz.ntmps46
    go_wp2_with fail
    go_ret
    exact ⟨ret_int HL.out.symm, rfl⟩
  case neg =>
  by_cases h11 : k1 = 11
  case pos =>
    subst h11
    have HL := hid (show tmLev 11 u1 = 0 by unfold tmLev; simp)
    go_enter Tryz.func46, Tryz.ntmps46
    go_wp2_with fail
    go_ret
    exact ⟨ret_int HL.out.symm, rfl⟩
  case neg =>
  by_cases h5 : k1 = 5
  case pos =>
    subst h5
    have HL := hid (show tmLev 5 u1 = 4 by unfold tmLev; simp)
    go_enter Tryz.func46, Tryz.ntmps46
    go_wp2_with fail
    go_ret
    exact ⟨ret_int HL.out.symm, rfl⟩
  case neg =>
  by_cases h3 : k1 = 3
  case neg =>
    have HL := hid (show tmLev k1 u1 = 5 by unfold tmLev; simp [*])
    have g4 : (k1 == 4) = false := by simp [h4]
    have g7 : (k1 == 7) = false := by simp [h7]
    have g11 : (k1 == 11) = false := by simp [h11]
    have g5 : (k1 == 5) = false := by simp [h5]
    have g3 : (k1 == 3) = false := by simp [h3]
    clear h4 h7 h11 h5 h3
    go_enter Tryz.func46, Tryz.ntmps46
    go_wp2_with fail
    go_ret
    exact ⟨ret_int HL.out.symm, rfl⟩
  case pos =>
    subst h3
    clear h4 h7 h11 h5
    by_cases y5 : u1 = 5
    case pos =>
      subst y5
      have HL := hid (show tmLev 3 5 = 1 by decide)
      go_enter Tryz.func46, Tryz.ntmps46
      go_wp2_with fail
      go_ret
      exact ⟨ret_int HL.out.symm, rfl⟩
    case neg =>
    by_cases y6 : u1 = 6
    case pos =>
      subst y6
      have HL := hid (show tmLev 3 6 = 1 by decide)
      go_enter Tryz.func46, Tryz.ntmps46
      go_wp2_with fail
      go_ret
      exact ⟨ret_int HL.out.symm, rfl⟩
    case neg =>
    by_cases y1 : u1 = 1
    case pos =>
      subst y1
      have HL := hid (show tmLev 3 1 = 2 by decide)
      go_enter Tryz.func46, Tryz.ntmps46
      go_wp2_with fail
      go_ret
      exact ⟨ret_int HL.out.symm, rfl⟩
    case neg =>
    by_cases y2 : u1 = 2
    case pos =>
      subst y2
      have HL := hid (show tmLev 3 2 = 2 by decide)
      go_enter Tryz.func46, Tryz.ntmps46
      go_wp2_with fail
      go_ret
      exact ⟨ret_int HL.out.symm, rfl⟩
    case neg =>
    have HL := hid (show tmLev 3 u1 = 3 by unfold tmLev; simp [*])
    have z5 : (u1 == 5) = false := by simp [y5]
    have z6 : (u1 == 6) = false := by simp [y6]
    have z1 : (u1 == 1) = false := by simp [y1]
    have z2 : (u1 == 2) = false := by simp [y2]
    clear y5 y6 y1 y2
    go_enter Tryz.func46, Tryz.ntmps46
    go_wp2_with fail
    go_ret
    exact ⟨ret_int HL.out.symm, rfl⟩
theorem impl_Level (k1 : Int) (u1 : Int) (n1 : ByteArray) (tk1 : Int) (tn1 : ByteArray) (tks1 : List Ty) (ns1 : List ByteArray) (ks1 : List Tm) (atks1 : Option Addr) (ctks1 : Nat) (ans1 : Option Addr) (cns1 : Nat) (aks1 : Option Addr) (cks1 : Nat) (w : World) :
    Calls Tryz.prog 50 #[.agg #[.int .i64 k1, .int .i64 u1, .string n1, .int .i64 tk1, .string tn1, .slice atks1 tks1.length ctks1, .slice ans1 ns1.length cns1, .slice aks1 ks1.length cks1]] w fun e w' => e = .returned (.int .i64 (tmLev k1 u1)) ∧ Below w.heap.size w w' := by
  have HB := hid ((Below.refl w.heap.size w).alloc (Nat.le_refl _) (.cells #[.int .i64 k1, .int .i64 u1, .string n1, .int .i64 tk1, .string tn1, .slice atks1 tks1.length ctks1, .slice ans1 ns1.length cns1, .slice aks1 ks1.length cks1] 36))
  by_cases h4 : k1 = 4
  case pos =>
    subst h4
    have HL := hid (show tmLev 4 u1 = 0 by unfold tmLev; simp)
    go_enter Tryz.func50, Tryz.ntmps50
    go_wp2_with fail
    go_ret
    exact ⟨ret_int HL.out.symm, HB.out⟩
  case neg =>
  by_cases h7 : k1 = 7
  case pos =>
    subst h7
    have HL := hid (show tmLev 7 u1 = 0 by unfold tmLev; simp)
    go_enter Tryz.func50, Tryz.ntmps50
    go_wp2_with fail
    go_ret
    exact ⟨ret_int HL.out.symm, HB.out⟩
  case neg =>
  by_cases h11 : k1 = 11
  case pos =>
    subst h11
    have HL := hid (show tmLev 11 u1 = 0 by unfold tmLev; simp)
    go_enter Tryz.func50, Tryz.ntmps50
    go_wp2_with fail
    go_ret
    exact ⟨ret_int HL.out.symm, HB.out⟩
  case neg =>
  by_cases h5 : k1 = 5
  case pos =>
    subst h5
    have HL := hid (show tmLev 5 u1 = 4 by unfold tmLev; simp)
    go_enter Tryz.func50, Tryz.ntmps50
    go_wp2_with fail
    go_ret
    exact ⟨ret_int HL.out.symm, HB.out⟩
  case neg =>
  by_cases h3 : k1 = 3
  case neg =>
    have HL := hid (show tmLev k1 u1 = 5 by unfold tmLev; simp [*])
    have g4 : (k1 == 4) = false := by simp [h4]
    have g7 : (k1 == 7) = false := by simp [h7]
    have g11 : (k1 == 11) = false := by simp [h11]
    have g5 : (k1 == 5) = false := by simp [h5]
    have g3 : (k1 == 3) = false := by simp [h3]
    clear h4 h7 h11 h5 h3
    go_enter Tryz.func50, Tryz.ntmps50
    go_wp2_with fail
    go_ret
    exact ⟨ret_int HL.out.symm, HB.out⟩
  case pos =>
    subst h3
    clear h4 h7 h11 h5
    by_cases y5 : u1 = 5
    case pos =>
      subst y5
      have HL := hid (show tmLev 3 5 = 1 by decide)
      go_enter Tryz.func50, Tryz.ntmps50
      go_wp2_with fail
      go_ret
      exact ⟨ret_int HL.out.symm, HB.out⟩
    case neg =>
    by_cases y6 : u1 = 6
    case pos =>
      subst y6
      have HL := hid (show tmLev 3 6 = 1 by decide)
      go_enter Tryz.func50, Tryz.ntmps50
      go_wp2_with fail
      go_ret
      exact ⟨ret_int HL.out.symm, HB.out⟩
    case neg =>
    by_cases y1 : u1 = 1
    case pos =>
      subst y1
      have HL := hid (show tmLev 3 1 = 2 by decide)
      go_enter Tryz.func50, Tryz.ntmps50
      go_wp2_with fail
      go_ret
      exact ⟨ret_int HL.out.symm, HB.out⟩
    case neg =>
    by_cases y2 : u1 = 2
    case pos =>
      subst y2
      have HL := hid (show tmLev 3 2 = 2 by decide)
      go_enter Tryz.func50, Tryz.ntmps50
      go_wp2_with fail
      go_ret
      exact ⟨ret_int HL.out.symm, HB.out⟩
    case neg =>
    have HL := hid (show tmLev 3 u1 = 3 by unfold tmLev; simp [*])
    have z5 : (u1 == 5) = false := by simp [y5]
    have z6 : (u1 == 6) = false := by simp [y6]
    have z1 : (u1 == 1) = false := by simp [y1]
    have z2 : (u1 == 2) = false := by simp [y2]
    clear y5 y6 y1 y2
    go_enter Tryz.func50, Tryz.ntmps50
    go_wp2_with fail
    go_ret
    exact ⟨ret_int HL.out.symm, HB.out⟩
end Go.Proofs.YtikhofcjkcbpbaaGreatDoor
/- was: PrS -/
namespace Go.Proofs.YtikhofcjkcbpbaaGreatDoor
open Go.ChangeShapes Go.WideShapes Go.ChangeAt Go.RowKit Go.BigFrame
open Go.Sort (grow)
set_option linter.unusedVariables false

set_option maxRecDepth 100000 in
theorem print_at (k1 u1 : Int) (y : ByteArray) (b1 o1 : Nat) (l : Int) (w : World) (hy : y.size ≤ 67108930) (x0 : w.cell? ⟨b1, o1, none⟩ = some (.int .i64 k1)) (x1 : w.cell? ⟨b1, o1 + 1, none⟩ = some (.int .i64 u1))
    (hc : Calls Tryz.prog 47 #[.pointer (some ⟨b1, o1, none⟩)] w fun e w' => e = .returned (.string y) ∧ Below w.heap.size w w') :
    Calls Tryz.prog 19 #[.pointer (some ⟨b1, o1, none⟩), .int .i64 l] w fun e w' => e = .returned (.string (prn l (tmLev k1 u1, y))) ∧ Below w.heap.size w w' := by
  have HL := hid (spec_Level k1 u1 b1 o1 w x0 x1)
  have HC := hid hc
  generalize tmLev k1 u1 = L at HL ⊢
  clear x0 x1 hc
  have e1 : (⟨#[40]⟩ : ByteArray).size = 1 := rfl
  have e2 : (⟨#[41]⟩ : ByteArray).size = 1 := rfl
  have e3 : ((⟨#[40]⟩ : ByteArray) ++ y).size = 1 + y.size := by rw [ByteArray.size_append, e1]
  by_cases h : L < l
  case pos =>
    have HT := hid (show prn l (L, y) = (⟨#[40]⟩ ++ y) ++ ⟨#[41]⟩ from if_pos h)
    go_enter Tryz.func19, Tryz.ntmps19
    go_wp2_with fail
    refine HL.out.mono ?_
    rintro e w1 ⟨rfl, rfl⟩
    go_wp2_with fail
    refine HC.out.mono ?_
    rintro e w1 ⟨rfl, hb⟩
    have HB := hid hb
    clear hb
    go_wp2_with fail
    go_ret
    exact ret_strB HT.out.symm HB.out
  case neg =>
    have HT := hid (show prn l (L, y) = y from if_neg h)
    go_enter Tryz.func19, Tryz.ntmps19
    go_wp2_with fail
    refine HL.out.mono ?_
    rintro e w1 ⟨rfl, rfl⟩
    go_wp2_with fail
    refine HC.out.mono ?_
    rintro e w1 ⟨rfl, hb⟩
    have HB := hid hb
    clear hb
    go_wp2_with fail
    go_ret
    exact ret_strB HT.out.symm HB.out
def BareW (N : Nat) : Prop := ∀ (k1 : Int) (u1 : Int) (n1 : ByteArray) (tk1 : Int) (tn1 : ByteArray) (tks1 : List Ty) (ns1 : List ByteArray) (ks1 : List Tm) (atks1 : Option Addr) (ctks1 : Nat) (ans1 : Option Addr) (cns1 : Nat) (aks1 : Option Addr) (cks1 : Nat) (b1 o1 : Nat) (w : World), Tm.bulk (Tm.mk k1 u1 n1 (Ty.mk tk1 tn1 tks1) ns1 ks1) < N → Tm.bulk (Tm.mk k1 u1 n1 (Ty.mk tk1 tn1 tks1) ns1 ks1) ≤ 1048576 → Tm.good (Tm.mk k1 u1 n1 (Ty.mk tk1 tn1 tks1) ns1 ks1) = true → Tm.isCase (Tm.mk k1 u1 n1 (Ty.mk tk1 tn1 tks1) ns1 ks1) = false → w.cell? ⟨b1, o1, none⟩ = some (.int .i64 k1) → w.cell? ⟨b1, o1 + 1, none⟩ = some (.int .i64 u1) → w.cell? ⟨b1, o1 + 2, none⟩ = some (.string n1) → w.cell? ⟨b1, o1 + 3, none⟩ = some (.int .i64 tk1) → w.cell? ⟨b1, o1 + 4, none⟩ = some (.string tn1) → w.cell? ⟨b1, o1 + 5, none⟩ = some (.slice atks1 tks1.length ctks1) → w.cell? ⟨b1, o1 + 6, none⟩ = some (.slice ans1 ns1.length cns1) → w.cell? ⟨b1, o1 + 7, none⟩ = some (.slice aks1 ks1.length cks1) → RdS w (Tm.d (Tm.mk k1 u1 n1 (Ty.mk tk1 tn1 tks1) ns1 ks1)) [.int .i64 k1, .int .i64 u1, .string n1, .int .i64 tk1, .string tn1, .slice atks1 tks1.length ctks1, .slice ans1 ns1.length cns1, .slice aks1 ks1.length cks1] →
  Calls Tryz.prog 47 #[.pointer (some ⟨b1, o1, none⟩)] w fun e w' => e = .returned (.string (Tm.text (Tm.mk k1 u1 n1 (Ty.mk tk1 tn1 tks1) ns1 ks1))) ∧ Below w.heap.size w w'
theorem print_of (N : Nat) (ih : BareW N) (k1 : Int) (u1 : Int) (n1 : ByteArray) (tk1 : Int) (tn1 : ByteArray) (tks1 : List Ty) (ns1 : List ByteArray) (ks1 : List Tm) (atks1 : Option Addr) (ctks1 : Nat) (ans1 : Option Addr) (cns1 : Nat) (aks1 : Option Addr) (cks1 : Nat) (b1 o1 : Nat) (l : Int) (w : World) (hN : Tm.bulk (Tm.mk k1 u1 n1 (Ty.mk tk1 tn1 tks1) ns1 ks1) < N) (hM : Tm.bulk (Tm.mk k1 u1 n1 (Ty.mk tk1 tn1 tks1) ns1 ks1) ≤ 1048576) (hg : Tm.good (Tm.mk k1 u1 n1 (Ty.mk tk1 tn1 tks1) ns1 ks1) = true) (hcs : Tm.isCase (Tm.mk k1 u1 n1 (Ty.mk tk1 tn1 tks1) ns1 ks1) = false) (x0 : w.cell? ⟨b1, o1, none⟩ = some (.int .i64 k1)) (x1 : w.cell? ⟨b1, o1 + 1, none⟩ = some (.int .i64 u1)) (x2 : w.cell? ⟨b1, o1 + 2, none⟩ = some (.string n1)) (x3 : w.cell? ⟨b1, o1 + 3, none⟩ = some (.int .i64 tk1)) (x4 : w.cell? ⟨b1, o1 + 4, none⟩ = some (.string tn1)) (x5 : w.cell? ⟨b1, o1 + 5, none⟩ = some (.slice atks1 tks1.length ctks1)) (x6 : w.cell? ⟨b1, o1 + 6, none⟩ = some (.slice ans1 ns1.length cns1)) (x7 : w.cell? ⟨b1, o1 + 7, none⟩ = some (.slice aks1 ks1.length cks1)) (hr : RdS w (Tm.d (Tm.mk k1 u1 n1 (Ty.mk tk1 tn1 tks1) ns1 ks1)) [.int .i64 k1, .int .i64 u1, .string n1, .int .i64 tk1, .string tn1, .slice atks1 tks1.length ctks1, .slice ans1 ns1.length cns1, .slice aks1 ks1.length cks1]) :
    Calls Tryz.prog 19 #[.pointer (some ⟨b1, o1, none⟩), .int .i64 l] w fun e w' => e = .returned (.string (Tm.at l (Tm.mk k1 u1 n1 (Ty.mk tk1 tn1 tks1) ns1 ks1))) ∧ Below w.heap.size w w' :=
  print_at k1 u1 _ b1 o1 l w (Tm.text_small hg hM) x0 x1 (ih k1 u1 n1 tk1 tn1 tks1 ns1 ks1 atks1 ctks1 ans1 cns1 aks1 cks1 b1 o1 w hN hM hg hcs x0 x1 x2 x3 x4 x5 x6 x7 hr)
set_option maxRecDepth 100000 in
set_option maxHeartbeats 1000000 in
theorem spec_TmList (N : Nat) (ih : BareW N) (ks : List Tm) (a : Option Addr) (c : Nat) (w : World) (hl : ks.length ≤ 3) (hN : Tm.bulks ks ≤ N) (hM : Tm.bulks ks ≤ 1048576) (hg : Tm.goods ks = true) (hcs : ∀ (j : Nat) t, ks[j]? = some t → Tm.isCase t = false) (hr : RdL w (Tm.ds ks) (.slice a ks.length c)) :
    Calls Tryz.prog 76 #[.slice a ks.length c] w fun e w' => e = .returned (.string (brk (Tm.at0s ks))) ∧ Below w.heap.size w w' := by
  obtain ⟨_, _, e, h2, h3, h4⟩ := hr.eTm
  simp only [Value.slice.injEq, true_and] at e
  obtain ⟨rfl, rfl⟩ := e
  have H4 := hid h4
  have IH := hid ih
  have HG := hid hg
  have HCS := hid hcs
  have HNN := hid hN
  have HMM := hid hM
  have HPO := hid (fun (h : Tm.at0s ks ≠ []) => joinS_pos (sep := ⟨#[44, 32]⟩) h (Tm.at0s_pos ks hg))
  have hle : (Tm.at0s ks).length = ks.length := by rw [Tm.at0s, List.length_map, Tm.texts_length]
  have HLE := hid hle
  have e2 : (⟨#[44, 32]⟩ : ByteArray).size = 2 := rfl
  clear h4 ih hg hcs hN hM h2 h3 hr hle
  go_enter Tryz.func76, Tryz.ntmps76
  go_wp2_with fail
  go_loopw [3, 4] (fun t i wr => ∃ (j : Nat) (x : ByteArray), j ≤ ks.length ∧ i = .int .i64 j ∧ t = .string x ∧ x.size ≤ j * 67108936 ∧ Hid (x = joinS ⟨#[44, 32]⟩ (Tm.at0s (ks.take j))) ∧ Hid (Below w.heap.size w wr)) (fun _ i _ => ks.length - (intOf i).toNat)
  case atStart => exact ⟨0, ⟨#[]⟩, by omega, rfl, rfl, by decide, hid rfl, Below.refl _ _⟩
  case round =>
    obtain ⟨j, x, hj, rfl, rfl, hx, HX, HB⟩ := hrel
    have hxs : x.size ≤ 300000000 := by omega
    by_cases hlt : j < ks.length
    case neg =>
      have HE := hid (show x = joinS ⟨#[44, 32]⟩ (Tm.at0s ks) by rw [HX.out, List.take_of_length_le (by omega)])
      by_cases hne : ks = []
      case pos =>
        have e0 : x = ⟨#[]⟩ := by rw [HE.out, hne]; rfl
        have HZ := hid (show brk (Tm.at0s ks) = ⟨#[]⟩ by rw [hne]; rfl)
        subst e0
        clear hne hj hx hxs
        go_wp2_with fail
        go_ret
        exact ret_strB HZ.out.symm HB.out
      case neg =>
        have hne2 : Tm.at0s ks ≠ [] := fun h => hne (List.length_eq_zero_iff.1 (by rw [← HLE.out, h]; rfl))
        have HZ := hid (show brk (Tm.at0s ks) = (⟨#[91]⟩ ++ x) ++ ⟨#[93]⟩ by rw [brk_eq hne2, HE.out])
        have hxp : 1 ≤ x.size := by rw [HE.out]; exact HPO.out hne2
        have hxe := isEmpty_str hxp
        have hxl : (x.toList == []) = false := by simpa using hxe
        have e1 : (⟨#[91]⟩ : ByteArray).size = 1 := rfl
        have e3 : ((⟨#[91]⟩ : ByteArray) ++ x).size = 1 + x.size := by rw [ByteArray.size_append, e1]
        have e4 : (⟨#[93]⟩ : ByteArray).size = 1 := rfl
        clear hne hne2 hx
        go_wp2_with fail
        go_ret
        exact ret_strB HZ.out.symm HB.out
    case pos =>
      obtain ⟨b, o, rfl, hbl, hall⟩ := H4.out (by omega)
      obtain ⟨t, ht⟩ : ∃ t, ks[j]? = some t := ⟨_, List.getElem?_eq_getElem hlt⟩
      have hcse := HCS.out j t ht
      have hgk := Tm.goods_get ks j t HG.out ht
      have hbg := Tm.bulk_get ks j t ht
      have hsn := Tm.at0s_snoc ks j t ht
      obtain ⟨k3, u3, n3, ⟨tk3, tn3, tks3⟩, ns3, ks3⟩ := t
      obtain ⟨atks3, ctks3, ans3, cns3, aks3, cks3, q0, q1, q2, q3, q4, q5, q6, q7, hrk⟩ := hall j k3 u3 n3 tk3 tn3 tks3 ns3 ks3 ht
      have hc := print_of N IH.out k3 u3 n3 tk3 tn3 tks3 ns3 ks3 atks3 ctks3 ans3 cns3 aks3 cks3 b (o + j * 8) 0 wr (by have := HNN.out; omega) (by have := HMM.out; omega) hgk hcse ((HB.out.cell (p := ⟨b, o + j * 8, none⟩) hbl).trans q0) ((HB.out.cell (p := ⟨b, o + j * 8 + 1, none⟩) hbl).trans q1) ((HB.out.cell (p := ⟨b, o + j * 8 + 2, none⟩) hbl).trans q2) ((HB.out.cell (p := ⟨b, o + j * 8 + 3, none⟩) hbl).trans q3) ((HB.out.cell (p := ⟨b, o + j * 8 + 4, none⟩) hbl).trans q4) ((HB.out.cell (p := ⟨b, o + j * 8 + 5, none⟩) hbl).trans q5) ((HB.out.cell (p := ⟨b, o + j * 8 + 6, none⟩) hbl).trans q6) ((HB.out.cell (p := ⟨b, o + j * 8 + 7, none⟩) hbl).trans q7) (hrk.below HB.out)
      have hzy := Tm.at_small 0 hgk (by have := HMM.out; omega)
      generalize hy : Tm.at 0 (Tm.mk k3 u3 n3 (Ty.mk tk3 tn3 tks3) ns3 ks3) = y at hc hzy hsn
      have HC := hid hc
      have HSN := hid hsn
      clear hall H4 ht hrk hc hy q0 q1 q2 q3 q4 q5 q6 q7 hcse hgk hbg hsn
      by_cases hj0 : j = 0
      case pos =>
        subst hj0
        have e0 : x = ⟨#[]⟩ := by rw [HX.out, List.take_zero]; rfl
        subst e0
        rw [Nat.zero_mul, Nat.add_zero] at HC
        have HE := hid (show (⟨#[]⟩ : ByteArray) ++ y = joinS ⟨#[44, 32]⟩ (Tm.at0s (ks.take (0 + 1))) by rw [HSN.out]; exact WideShapes.bytes_inj (by rw [data_app]; rfl))
        have hes : ((⟨#[]⟩ : ByteArray) ++ y).size ≤ 1 * 67108936 := by rw [ByteArray.size_append]; have : (⟨#[]⟩ : ByteArray).size = 0 := rfl; omega
        clear hx hxs
        go_wp2_with fail
        refine HC.out.mono ?_
        rintro e w1 ⟨rfl, hb⟩
        have HB2 := hid (HB.out.trans (hb.mono HB.out.size))
        clear hb
        go_wp2_with fail
        go_roundw
        case rel => exact ⟨1, _, by omega, by go_num, rfl, hes, HE, HB2⟩
        case measure => first | (simp [intOf]; done) | (simp [intOf]; omega)
      case neg =>
        have gj : decide (0 < j) = true := decide_eq_true (by omega)
        have hne : Tm.at0s (ks.take j) ≠ [] := by intro h; have h2 : (Tm.at0s (ks.take j)).length = 0 := (by rw [h]; rfl); rw [Tm.at0s, List.length_map, Tm.texts_length, List.length_take] at h2; omega
        have HE := hid (show (x ++ ⟨#[44, 32]⟩) ++ y = joinS ⟨#[44, 32]⟩ (Tm.at0s (ks.take (j + 1))) by rw [HSN.out, joinS_snoc _ _ hne, HX.out])
        have e3 : (x ++ (⟨#[44, 32]⟩ : ByteArray)).size = x.size + 2 := by rw [ByteArray.size_append, e2]
        have hes : ((x ++ ⟨#[44, 32]⟩) ++ y).size ≤ (j + 1) * 67108936 := by rw [ByteArray.size_append, e3]; omega
        have HES := hid hes
        clear hne hx hes
        go_wp2_with fail
        refine HC.out.mono ?_
        rintro e w1 ⟨rfl, hb⟩
        have HB2 := hid (HB.out.trans (hb.mono HB.out.size))
        clear hb
        go_wp2_with fail
        go_roundw
        case rel => exact ⟨j + 1, _, by omega, by go_num, rfl, HES.out, HE, HB2⟩
        case measure => first | (simp [intOf]; done) | (simp [intOf]; omega)
end Go.Proofs.YtikhofcjkcbpbaaGreatDoor
