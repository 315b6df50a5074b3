/- Inhabited data types: plain facts: both ways of going round come to the same. No condition. -/
import Derived.Test.YtgpefnlpbjnjbaaDatPlain
namespace Go.Proofs.Ytgpefnlpbjnjbaa
open Go.RowKit

def blAt (lv : List Bool) (i : Int) : Bool := (lv[i.toNat]?).getD false
mutual
def Ty.lives (ts : List Dat) (lv : List Bool) : Ty → Bool
  | .mk k n ks => if k = 2 then blAt lv (named ts n) else if k = 4 then (Ty.liveL ts lv ks).headD true else true
def Ty.liveL (ts : List Dat) (lv : List Bool) : List Ty → List Bool
  | [] => []
  | u :: us => Ty.lives ts lv u :: Ty.liveL ts lv us
end
theorem Ty.lives_data (ts : List Dat) (lv : List Bool) (n : ByteArray) (ks : List Ty) : Ty.lives ts lv (.mk 2 n ks) = blAt lv (named ts n) := by rw [Ty.lives, if_pos rfl]
theorem Ty.lives_bang (ts : List Dat) (lv : List Bool) (n : ByteArray) (x : Ty) : Ty.lives ts lv (.mk 4 n [x]) = Ty.lives ts lv x := by rw [Ty.lives, if_neg (by decide), if_pos rfl, Ty.liveL]; rfl
theorem Ty.lives_mk (ts : List Dat) (lv : List Bool) {k : Int} (h2 : k ≠ 2) (h4 : k ≠ 4) (n : ByteArray) (ks : List Ty) : Ty.lives ts lv (.mk k n ks) = true := by rw [Ty.lives, if_neg h2, if_neg h4]
def fieldDead (ts : List Dat) (lv : List Bool) (t : Ty) : Bool := !Ty.lives ts lv t
def fieldsLive (ts : List Dat) (lv : List Bool) (us : List Ty) : Bool := !us.any (fieldDead ts lv)
def conLives (ts : List Dat) (lv : List Bool) : Con → Bool
  | .mk _ fs => fieldsLive ts lv fs
def datLives (ts : List Dat) (lv : List Bool) : Dat → Bool
  | .mk _ cs => cs.any (conLives ts lv)
def setIf (b : Bool) (lv : List Bool) (i : Nat) : List Bool := if b then lv.set i true else lv
/-- One round from the data type number i on. -/
def liveFrom (ts : List Dat) : List Dat → Nat → List Bool → List Bool
  | [], _, lv => lv
  | d :: ds, i, lv => liveFrom ts ds (i + 1) (setIf (datLives ts lv d) lv i)
theorem liveFrom_take (ts : List Dat) : ∀ (ds : List Dat) (i j : Nat) (d : Dat) (lv : List Bool), ds[j]? = some d → liveFrom ts (ds.take (j + 1)) i lv = setIf (datLives ts (liveFrom ts (ds.take j) i lv) d) (liveFrom ts (ds.take j) i lv) (i + j)
  | [], i, j, d, lv, h => by simp at h
  | e :: ds, i, 0, d, lv, h => by simp at h; subst h; simp [liveFrom]
  | e :: ds, i, j + 1, d, lv, h => by
    have := liveFrom_take ts ds (i + 1) j d (setIf (datLives ts lv e) lv i) (by simpa using h)
    rw [List.take_succ_cons, List.take_succ_cons, liveFrom, liveFrom, this, show i + 1 + j = i + (j + 1) by omega]
def cntT (lv : List Bool) : Nat := lv.count true
theorem cntT_le (lv : List Bool) : cntT lv ≤ lv.length := List.count_le_length
theorem setIf_len (b : Bool) (lv : List Bool) (i : Nat) : (setIf b lv i).length = lv.length := by unfold setIf; split <;> simp
theorem set_same_true : ∀ (lv : List Bool) (i : Nat), lv[i]? = some true → lv.set i true = lv
  | [], i, h => by simp at h
  | x :: lv, 0, h => by simp at h; subst h; rfl
  | x :: lv, i + 1, h => by rw [List.set_cons_succ, set_same_true lv i (by simpa using h)]
theorem set_cnt : ∀ (lv : List Bool) (i : Nat), lv[i]? = some false → cntT (lv.set i true) = cntT lv + 1
  | [], i, h => by simp at h
  | x :: lv, 0, h => by simp at h; subst h; simp [cntT]
  | x :: lv, i + 1, h => by
    have := set_cnt lv i (by simpa using h)
    unfold cntT at *
    rw [List.set_cons_succ, List.count_cons, List.count_cons, this]; omega
theorem setIf_step (b : Bool) (lv : List Bool) (i : Nat) : setIf b lv i = lv ∨ cntT lv < cntT (setIf b lv i) := by
  unfold setIf
  split
  · cases h : lv[i]? with
    | none => left; rw [List.set_eq_of_length_le]; exact List.getElem?_eq_none_iff.1 h
    | some x => cases x with
      | true => left; exact set_same_true lv i h
      | false => right; have := set_cnt lv i h; omega
  · left; rfl
theorem liveFrom_step (ts : List Dat) : ∀ (ds : List Dat) (i : Nat) (lv : List Bool), (liveFrom ts ds i lv).length = lv.length ∧ (liveFrom ts ds i lv = lv ∨ cntT lv < cntT (liveFrom ts ds i lv))
  | [], i, lv => ⟨rfl, .inl rfl⟩
  | d :: ds, i, lv => by
    obtain ⟨h1, h2⟩ := liveFrom_step ts ds (i + 1) (setIf (datLives ts lv d) lv i)
    rw [liveFrom]
    refine ⟨h1.trans (setIf_len _ _ _), ?_⟩
    rcases setIf_step (datLives ts lv d) lv i with e | e
    · rw [e] at h2 ⊢; exact h2
    · rcases h2 with k | k
      · rw [k]; exact .inr e
      · exact .inr (Nat.lt_trans e k)
theorem liveFrom_le (ts : List Dat) (ds : List Dat) (i : Nat) (lv : List Bool) : cntT lv ≤ cntT (liveFrom ts ds i lv) := by
  rcases (liveFrom_step ts ds i lv).2 with h | h
  · rw [h]; exact Nat.le_refl _
  · omega
def round (ts : List Dat) (lv : List Bool) : List Bool := liveFrom ts ts 0 lv
def iter (ts : List Dat) : Nat → List Bool
  | 0 => List.replicate ts.length false
  | j + 1 => round ts (iter ts j)
theorem iter_len (ts : List Dat) : ∀ j, (iter ts j).length = ts.length
  | 0 => by simp [iter]
  | j + 1 => by rw [iter, round, (liveFrom_step ts ts 0 _).1, iter_len ts j]
theorem iter_from (ts : List Dat) {i : Nat} (h : round ts (iter ts i) = iter ts i) : ∀ m, iter ts (i + m) = iter ts i
  | 0 => rfl
  | m + 1 => by rw [← Nat.add_assoc, iter, iter_from ts h m, h]
theorem iter_grow (ts : List Dat) : ∀ j, (∃ i, i < j ∧ round ts (iter ts i) = iter ts i) ∨ j ≤ cntT (iter ts j)
  | 0 => .inr (Nat.zero_le _)
  | j + 1 => by
    rcases iter_grow ts j with ⟨i, h1, h2⟩ | h
    · exact .inl ⟨i, by omega, h2⟩
    · rcases (liveFrom_step ts ts 0 (iter ts j)).2 with e | e
      · exact .inl ⟨j, by omega, e⟩
      · right; rw [iter]; unfold round; omega
/-- As many rounds as there are data types are enough. -/
theorem iter_fix (ts : List Dat) : round ts (iter ts ts.length) = iter ts ts.length := by
  rcases iter_grow ts (ts.length + 1) with ⟨i, h1, h2⟩ | h
  · have e1 := iter_from ts h2 (ts.length - i)
    rw [show i + (ts.length - i) = ts.length by omega] at e1
    rw [e1, h2]
  · have := cntT_le (iter ts (ts.length + 1)); rw [iter_len] at this; omega
theorem iter_same (ts : List Dat) {j : Nat} (h : round ts (iter ts j) = iter ts j) : iter ts j = iter ts ts.length := by
  have h1 := iter_from ts h (ts.length)
  have h2 := iter_from ts (iter_fix ts) j
  rw [Nat.add_comm] at h2
  rw [← h1, h2]
def inhN (ts : List Dat) : List Bool := if datasOk ts then iter ts ts.length else []
theorem inhN_yes {ts : List Dat} (h : datasOk ts = true) : inhN ts = iter ts ts.length := if_pos h
theorem inhN_no {ts : List Dat} (h : datasOk ts = false) : inhN ts = [] := by rw [inhN, h]; rfl
theorem inhN_len (ts : List Dat) : (inhN ts).length ≤ ts.length := by
  unfold inhN
  split
  · rw [iter_len]; exact Nat.le_refl _
  · simp
/-- Every field of a constructor of valid declarations is well formed and known. -/
def fieldFit (ts : List Dat) (t : Ty) : Prop := Ty.good t = true ∧ Ty.known ts t = true
theorem fieldsOk_get (ts : List Dat) : ∀ (us : List Ty) (j : Nat) (t : Ty), fieldsOk ts us = true → us[j]? = some t → fieldFit ts t
  | [], j, t, _, h => by simp at h
  | u :: us, 0, t, g, h => by
    simp at h; subst h
    simp only [fieldsOk, Bool.and_eq_true, fieldOk] at g
    exact ⟨Ty.ok_good g.1.1, g.1.2⟩
  | u :: us, j + 1, t, g, h => by simp only [fieldsOk, Bool.and_eq_true] at g; exact fieldsOk_get ts us j t g.2 (by simpa using h)
theorem conOk_fields {ts : List Dat} {n : ByteArray} {fs : List Ty} (h : conOk ts (.mk n fs) = true) : fieldsOk ts fs = true := by
  simp only [conOk, Bool.and_eq_true] at h
  first | exact h.2.2 | exact h.2 | exact h.1.2
theorem consFrom_get (ts : List Dat) : ∀ (cs : List Con) (seen s : List ByteArray) (j : Nat) (c : Con), consFrom ts cs seen = some s → cs[j]? = some c → conOk ts c = true
  | [], seen, s, j, c, _, h => by simp at h
  | d :: cs, seen, s, 0, c, g, h => by
    simp at h; subst h
    rw [consFrom] at g
    split at g
    · rename_i h1; simp only [Bool.and_eq_true] at h1; exact h1.1
    · simp at g
  | d :: cs, seen, s, j + 1, c, g, h => by
    rw [consFrom] at g
    split at g
    · exact consFrom_get ts cs _ s j c g (by simpa using h)
    · simp at g
theorem datsFrom_get (ts : List Dat) : ∀ (ds : List Dat) (i : Nat) (seen : List ByteArray) (j : Nat) (n : ByteArray) (cs : List Con), datsFrom ts ds i seen = true → ds[j]? = some (.mk n cs) → ∀ (q : Nat) (c : Con), cs[q]? = some c → conOk ts c = true
  | [], i, seen, j, n, cs, _, h => by simp at h
  | d :: ds, i, seen, 0, n, cs, g, h => by
    simp at h; subst h
    rw [datsFrom] at g
    intro q c hc
    cases he : consFrom ts (datCons (.mk n cs)) seen with
    | none => rw [he] at g; simp at g
    | some s => exact consFrom_get ts cs seen s q c he hc
  | d :: ds, i, seen, j + 1, n, cs, g, h => by
    rw [datsFrom] at g
    cases he : consFrom ts (datCons d) seen with
    | none => rw [he] at g; simp at g
    | some s =>
      rw [he] at g
      simp only [Bool.and_eq_true] at g
      exact datsFrom_get ts ds (i + 1) s j n cs g.2 (by simpa using h)
theorem datas_fields {ts : List Dat} (h : datasOk ts = true) {j : Nat} {n : ByteArray} {cs : List Con} (hj : ts[j]? = some (.mk n cs)) {q : Nat} {m : ByteArray} {fs : List Ty} (hq : cs[q]? = some (.mk m fs)) : fieldsOk ts fs = true := by
  simp only [datasOk, Bool.and_eq_true] at h
  exact conOk_fields (datsFrom_get ts ts 0 [] j n cs h.2 hj q _ hq)
end Go.Proofs.Ytgpefnlpbjnjbaa
