/- Programs: plain facts. No condition. -/
import Derived.Test.YtgpefnlpbjnjbaaGreatDatPlain
import Derived.Test.YtgpefnlpbjnjbaaGreatTmPlain
import Derived.Test.YtgpefnlpbjnjbaaGreatDPg
namespace Go.Proofs.YtgpefnlpbjnjbaaGreat
open Go.RowKit

def dfIs (nm : ByteArray) : Df → Bool
  | .mk n _ _ => decide (n = nm)
def namedF (fs : List Df) (nm : ByteArray) : Int := fstAt (dfIs nm) fs
def dfOk (fs : List Df) (i : Nat) : Df → Bool
  | .mk n t b => isLowerB n && (decide (namedF fs n = i) && (Ty.ok t && Tm.ok b))
theorem dfOk_eq (fs : List Df) (i : Nat) (n : ByteArray) (t : Ty) (b : Tm) : dfOk fs i (.mk n t b) = (isLowerB n && (decide (namedF fs n = i) && (Ty.ok t && Tm.ok b))) := rfl
def dfsOk (fs : List Df) : List Df → Nat → Bool
  | [], _ => true
  | d :: ds, i => dfOk fs i d && dfsOk fs ds (i + 1)
theorem dfsOk_no (fs : List Df) : ∀ (ds : List Df) (i j : Nat) (d : Df), ds[j]? = some d → dfOk fs (i + j) d = false → dfsOk fs ds i = false
  | [], i, j, d, h, _ => by simp at h
  | u :: ds, i, 0, d, h, e => by simp at h; subst h; rw [dfsOk, show dfOk fs i u = false from e]; rfl
  | u :: ds, i, j + 1, d, h, e => by rw [dfsOk, dfsOk_no fs ds (i + 1) j d (by simpa using h) (by rw [show i + 1 + j = i + (j + 1) by omega]; exact e)]; simp
theorem dfsOk_yes (fs : List Df) : ∀ (ds : List Df) (i : Nat), (∀ (j : Nat) d, ds[j]? = some d → dfOk fs (i + j) d = true) → dfsOk fs ds i = true
  | [], _, _ => rfl
  | u :: ds, i, h => by rw [dfsOk, show dfOk fs i u = true from h 0 u rfl, dfsOk_yes fs ds (i + 1) fun j d hj => by rw [show i + 1 + j = i + (j + 1) by omega]; exact h (j + 1) d (by simpa using hj)]; rfl
def progOk (ds : List Dat) (fs : List Df) : Bool := datasOk ds && (inR fs.length 1 8 && dfsOk fs fs 0)
theorem namedF_le (fs : List Df) (j : Nat) (n : ByteArray) (t : Ty) (b : Tm) (h : fs[j]? = some (.mk n t b)) : namedF fs n ≤ j := by
  have : ∀ (fs : List Df) (j : Nat), fs[j]? = some (.mk n t b) → fstAt (dfIs n) fs ≤ j := by
    intro fs
    induction fs with
    | nil => intro j h; simp at h
    | cons u us ih =>
      intro j h
      rcases j with _ | j
      · simp at h; subst h; simp [fstAt, dfIs]
      · have := ih j (by simpa using h)
        simp only [fstAt]; split
        · omega
        · split <;> omega
  exact this fs j h
end Go.Proofs.YtgpefnlpbjnjbaaGreat
