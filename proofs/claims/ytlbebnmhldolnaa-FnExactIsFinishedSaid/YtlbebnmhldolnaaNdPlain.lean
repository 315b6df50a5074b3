/- Machines: plain facts. No condition. -/
import Derived.Test.YtlbebnmhldolnaaBkValid
import Derived.Test.YtlbebnmhldolnaaCoErase
import Derived.Test.YtlbebnmhldolnaaDNe
namespace Go.Proofs.Ytlbebnmhldolnaa
open Go.RowKit

theorem all_no {α : Type} (p : α → Bool) : ∀ (l : List α) (j : Nat) (t : α), l[j]? = some t → p t = false → l.all p = false
  | [], j, t, h, _ => by simp at h
  | u :: l, 0, t, h, e => by simp at h; subst h; simp [e]
  | u :: l, j + 1, t, h, e => by rw [List.all_cons, all_no p l j t (by simpa using h) e]; simp
theorem all_yes {α : Type} (p : α → Bool) : ∀ (l : List α), (∀ (j : Nat) t, l[j]? = some t → p t = true) → l.all p = true
  | [], _ => rfl
  | u :: l, h => by rw [List.all_cons, h 0 u rfl, all_yes p l fun j t hj => h (j + 1) t (by simpa using hj)]; rfl
theorem any_not {α : Type} (p : α → Bool) : ∀ (l : List α), l.any (fun x => !p x) = !l.all p
  | [] => rfl
  | u :: l => by rw [List.any_cons, List.all_cons, any_not p l]; cases p u <;> rfl
def upTo (n : Int) (x : Int) : Bool := inR x 0 (n - 1)
def clOk (n h : Int) : Cl → Bool
  | .mk t es => Co.ok t && (Co.era t && (Co.refs t n && (Co.clo t es.length && (decide (es.length ≤ 256) && es.all (upTo h)))))
theorem clOk_mk (n h : Int) (t : Co) (es : List Int) : clOk n h (.mk t es) = (Co.ok t && (Co.era t && (Co.refs t n && (Co.clo t es.length && (decide (es.length ≤ 256) && es.all (upTo h)))))) := rfl
def kidIs (i : Nat) : Co → Bool
  | .mk k v _ _ => decide (k = 1) && decide (v = i)
def kidsVar : Nat → List Co → Bool
  | _, [] => true
  | i, t :: ts => kidIs i t && kidsVar (i + 1) ts
theorem kidsVar_no : ∀ (ts : List Co) (i j : Nat) (t : Co), ts[j]? = some t → kidIs (i + j) t = false → kidsVar i ts = false
  | [], i, j, t, h, _ => by simp at h
  | u :: ts, i, 0, t, h, e => by simp at h; subst h; rw [kidsVar, show kidIs i u = false from e]; rfl
  | u :: ts, i, j + 1, t, h, e => by rw [kidsVar, kidsVar_no ts (i + 1) j t (by simpa using h) (by rw [show i + 1 + j = i + (j + 1) by omega]; exact e)]; simp
theorem kidsVar_yes : ∀ (ts : List Co) (i : Nat), (∀ (j : Nat) t, ts[j]? = some t → kidIs (i + j) t = true) → kidsVar i ts = true
  | [], _, _ => rfl
  | u :: ts, i, h => by rw [kidsVar, show kidIs i u = true from h 0 u rfl, kidsVar_yes ts (i + 1) fun j t hj => by rw [show i + 1 + j = i + (j + 1) by omega]; exact h (j + 1) t (by simpa using hj)]; rfl
def clFields : Cl → Bool
  | .mk (.mk _ _ _ ks) es => decide (ks.length = es.length) && kidsVar 0 ks
def clVal : Cl → Bool
  | .mk (.mk k v ds ks) es => if k = 4 then true else if k = 2 then true else if k = 8 then clFields (.mk (.mk k v ds ks) es) else false
def clNone : Cl → Bool
  | .mk (.mk k v ds ks) es => decide (k = 0) && (decide (v = 0) && (decide (ds.length = 0) && (decide (ks.length = 0) && decide (es.length = 0))))
def frRest (n h : Int) (k v : Int) (ds : List Int) : Bool :=
  if k = 1 then inR v 0 (h - 1) && decide (ds.length = 0) else if k = 2 then inR v 0 (h - 1) && decide (ds.length = 0)
  else if k = 4 then inR v 1 6 && (decide (ds.length = 1) && inR (ds.headD 0) (-2147483648) 2147483647)
  else if k = 5 then decide (v = 0) && (inR ds.length 1 4 && ds.all (upTo n))
  else if k = 6 then decide (v = 0) && (decide (ds.length = 2) && ds.all (upTo n)) else false
def frOk (n h : Int) : Fr → Bool
  | .mk k v ds c => if k = 3 then inR v 1 6 && (decide (ds.length = 0) && clOk n h c) else clNone c && frRest n h k v ds
def thOk (n h : Int) : Th → Bool
  | .mk dn c => clOk n h c && (!dn || clVal c)
def bookEra (fs : List Co) : Bool := bookOk fs && fs.all Co.era
def needOk (fs : List Co) : Ne → Bool
  | .mk c ss hs => bookEra fs && (decide (hs.length ≤ 2000) && (decide (ss.length ≤ 400) && (clOk fs.length hs.length c && (ss.all (frOk fs.length hs.length) && hs.all (thOk fs.length hs.length)))))
def needDone : Ne → Bool
  | .mk c ss _ => decide (ss.length = 0) && clVal c
theorem defsOk_get (n : Int) : ∀ (ts : List Co) (j : Nat) (t : Co), defsOk n ts = true → ts[j]? = some t → Co.ok t = true
  | [], j, t, _, h => by simp at h
  | u :: ts, 0, t, e, h => by simp at h; subst h; simp only [defsOk, defOk, Bool.and_eq_true] at e; exact e.1.1.1
  | u :: ts, j + 1, t, e, h => by simp only [defsOk, Bool.and_eq_true] at e; exact defsOk_get n ts j t e.2 (by simpa using h)
theorem Co.ok_good' {t : Co} (h : Co.ok t = true) : Co.good t = true := by
  simp only [Co.ok, Bool.and_eq_true] at h
  first | exact h.1 | exact h.1.1 | exact h.2 | exact h.2.1
end Go.Proofs.Ytlbebnmhldolnaa
