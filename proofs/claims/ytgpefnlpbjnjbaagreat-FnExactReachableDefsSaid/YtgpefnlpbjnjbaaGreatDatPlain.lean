/- Declarations: plain facts. No condition. -/
import Derived.Test.YtgpefnlpbjnjbaaGreatTyOk
import Derived.Test.YtgpefnlpbjnjbaaGreatTyShape
import Derived.Test.YtgpefnlpbjnjbaaGreatDDat
import Derived.Test.YtgpefnlpbjnjbaaGreatFst
namespace Go.Proofs.YtgpefnlpbjnjbaaGreat
open Go.RowKit

def datIs (nm : ByteArray) : Dat → Bool
  | .mk n _ => decide (n = nm)
def named (ts : List Dat) (nm : ByteArray) : Int := fstAt (datIs nm) ts
def Ty.knows (ts : List Dat) (n : ByteArray) : Bool := decide (0 ≤ named ts n)
mutual
def Ty.known (ts : List Dat) : Ty → Bool
  | .mk k n ks => if k = 2 then Ty.knows ts n else Ty.knowns ts ks
def Ty.knowns (ts : List Dat) : List Ty → Bool
  | [] => true
  | t :: us => Ty.known ts t && Ty.knowns ts us
end
theorem Ty.knowns_no (ts : List Dat) : ∀ (us : List Ty) (j : Nat) (t : Ty), us[j]? = some t → Ty.known ts t = false → Ty.knowns ts us = false
  | [], j, t, h, _ => by simp at h
  | u :: us, 0, t, h, e => by simp at h; subst h; simp [Ty.knowns, e]
  | u :: us, j + 1, t, h, e => by rw [Ty.knowns, Ty.knowns_no ts us j t (by simpa using h) e]; simp
theorem Ty.knowns_yes (ts : List Dat) : ∀ (us : List Ty), (∀ (j : Nat) t, us[j]? = some t → Ty.known ts t = true) → Ty.knowns ts us = true
  | [], _ => rfl
  | t :: us, h => by rw [Ty.knowns, h 0 t rfl, Ty.knowns_yes ts us fun j u hj => h (j + 1) u (by simpa using hj)]; rfl
def fieldOk (ts : List Dat) (t : Ty) : Bool := Ty.ok t && Ty.known ts t
def fieldsOk (ts : List Dat) : List Ty → Bool
  | [] => true
  | t :: us => fieldOk ts t && fieldsOk ts us
theorem fieldsOk_no (ts : List Dat) : ∀ (us : List Ty) (j : Nat) (t : Ty), us[j]? = some t → fieldOk ts t = false → fieldsOk ts us = false
  | [], j, t, h, _ => by simp at h
  | u :: us, 0, t, h, e => by simp at h; subst h; simp [fieldsOk, e]
  | u :: us, j + 1, t, h, e => by rw [fieldsOk, fieldsOk_no ts us j t (by simpa using h) e]; simp
theorem fieldsOk_yes (ts : List Dat) : ∀ (us : List Ty), (∀ (j : Nat) t, us[j]? = some t → fieldOk ts t = true) → fieldsOk ts us = true
  | [], _ => rfl
  | t :: us, h => by rw [fieldsOk, h 0 t rfl, fieldsOk_yes ts us fun j u hj => h (j + 1) u (by simpa using hj)]; rfl
def conOk (ts : List Dat) : Con → Bool
  | .mk n fs => isUpperB n && (decide (fs.length ≤ 3) && fieldsOk ts fs)
def conName : Con → ByteArray
  | .mk n _ => n
/-- The names of constructors, one by one: each is right and new. -/
def consFrom (ts : List Dat) : List Con → List ByteArray → Option (List ByteArray)
  | [], seen => some seen
  | c :: cs, seen => if conOk ts c && !hasStr seen (conName c) then consFrom ts cs (seen ++ [conName c]) else none
def intName : ByteArray := ⟨#[73, 110, 116]⟩
def headOk (ts : List Dat) (i : Nat) : Dat → Bool
  | .mk n qs => isUpperB n && (!(n.toList == [73, 110, 116]) && (decide (named ts n = i) && inR qs.length 1 4))
def datCons : Dat → List Con
  | .mk _ qs => qs
def datsFrom (ts : List Dat) : List Dat → Nat → List ByteArray → Bool
  | [], _, _ => true
  | d :: ds, i, seen => headOk ts i d && (match consFrom ts (datCons d) seen with | some s => datsFrom ts ds (i + 1) s | none => false)
def datasOk (ts : List Dat) : Bool := decide (ts.length ≤ 4) && datsFrom ts ts 0 []
theorem consFrom_len (ts : List Dat) : ∀ (cs : List Con) (seen s : List ByteArray), consFrom ts cs seen = some s → s.length = seen.length + cs.length
  | [], seen, s, h => by simp only [consFrom, Option.some.injEq] at h; subst h; simp
  | c :: cs, seen, s, h => by
    rw [consFrom] at h
    split at h
    · have := consFrom_len ts cs _ s h; simp at this; simp; omega
    · cases h
theorem Ty.ok_good {t : Ty} (h : Ty.ok t = true) : Ty.good t = true := by
  simp only [Ty.ok, Bool.and_eq_true] at h; exact h.1
end Go.Proofs.YtgpefnlpbjnjbaaGreat
