/- Tokens: walks of Tokens in the program. No condition. -/
import Derived.Test.YtikhofcjkcbpbaaDoorTkT
namespace Go.Proofs.YtikhofcjkcbpbaaDoor
open Go.ChangeShapes Go.WideShapes Go.ChangeAt Go.RowKit
set_option linter.unusedVariables false

theorem Tk.rdall {w : World} : ∀ (L : List Tk), (∀ x ∈ L, tkFine x) → RdAll w (Tk.ds L) (tkCells L) []
  | [], _ => by unfold RdAll; exact ⟨rfl, rfl⟩
  | .mk k n a :: L, h => by
    obtain ⟨h1, h2, h3⟩ := h (.mk k n a) (by simp)
    have hs : Rd w (Tk.d (.mk k n a)) [.int .i64 k, .string n, .int .i64 a] [] := by
      unfold Tk.d Rd
      have := ((RdAll.one (w := w) (Rd.int_mk (n := k) (by omega) (by omega))).append (RdAll.one (Rd.str_mk (s := n) (by omega)))).append (RdAll.one (Rd.int_mk (n := a) (by omega) (by omega)))
      simpa using this
    have := (RdAll.one hs).append (Tk.rdall L fun y hy => h y (by simp [hy]))
    simpa [Tk.ds, tkCells] using this
theorem ownsRow.rd_tks {B : Nat} {w' : World} {v : Value} {xs : List Tk} (h : OwnTk w' B v xs) (hL : ∀ x ∈ xs, tkFine x) : OwnL w' B (Tk.ds xs) v := by
  obtain ⟨F, h1, h2⟩ := Rd.of_own h (by rw [Tk.ds_length]) (Tk.rdall xs hL) (Owned.nil w' B) (fun _ _ hx => by simp at hx)
  exact ⟨F, h1, h2⟩
def GivesTks (r : List Tk × Int × Int) (w : World) (e : Ending) (w' : World) : Prop :=
  ∃ (a : Option Addr) (c : Nat), e = .returned (.tuple #[.slice a r.1.length c, .int .i64 r.2.1, .int .i64 r.2.2]) ∧ OwnL w' w.heap.size (Tk.ds r.1) (.slice a r.1.length c) ∧ Below w.heap.size w w'
theorem GivesTks.none {w w' : World} {r : List Tk × Int × Int} {p q : Int} (hr : r = ([], p, q)) (hb : Below w.heap.size w w') : GivesTks r w (.returned (.tuple #[.slice Option.none 0 0, .int .i64 p, .int .i64 q])) w' := by
  subst hr
  exact ⟨Option.none, 0, rfl, ⟨[], Rd.nil_mk (by omega), Owned.nil _ _⟩, hb⟩
theorem GivesTks.some {w w' : World} {r : List Tk × Int × Int} {L : List Tk} {v : Value} {p q : Int} (hr : r = (L, p, q)) (ho : OwnTk w' w.heap.size v L) (hL : ∀ x ∈ L, tkFine x) (hb : Below w.heap.size w w') : GivesTks r w (.returned (.tuple #[v, .int .i64 p, .int .i64 q])) w' := by
  subst hr
  have h := ownsRow.rd_tks ho hL
  rcases ho.2 with ⟨rfl, hn⟩ | ⟨g, cap, cur, rfl, _⟩
  · exact ⟨Option.none, 0, by rw [show L.length = 0 from hn], by rw [show L.length = 0 from hn]; exact h, hb⟩
  · exact ⟨_, cap, rfl, h, hb⟩
def blkS : ByteArray := ⟨#[32, 10, 9]⟩
set_option maxRecDepth 100000 in
set_option maxHeartbeats 2000000 in
theorem impl_Tokens (t : ByteArray) (hs : t.size ≤ 1048576) (w : World) (hp : Pow w) (he : Errs w) :
    Calls Tryd.prog 17 #[.string t] w (GivesTks (tkRes t) w) := by
  by_cases h2 : 20000 < t.size
  case pos =>
    have HR := hid (tkRes_long h2)
    clear hp he
    go_enter Tryd.func17, Tryd.ntmps17
    go_wp2_with fail
    go_ret3
    exact GivesTks.none HR.out (Below.refl _ _)
  case neg =>
  have HP := hid hp
  have HER := hid he
  have HLO := hid (fun l h => tkRes_ok (t := t) (l := l) h2 h)
  have HLB := hid (fun l i h => tkRes_bad (t := t) (l := l) (i := i) h2 h)
  have hs2 : t.size ≤ 20000 := by omega
  clear hp he h2
  generalize hR : tkRun t t.size 0 [] = R at HLO HLB
  have HRR := hid hR
  clear hR
  go_enter Tryd.func17, Tryd.ntmps17
  go_wp2_with fail
  go_loopw [5, 6] (fun l v wr => ∃ (i : Nat) (acc : List Tk), i ≤ t.size ∧ v = .int .i64 i ∧ acc.length ≤ i ∧ Hid (OwnTk wr w.heap.size l acc) ∧ Hid (tkRest t i acc R) ∧ Hid (∀ x ∈ acc, tkFine x) ∧ Hid (Below w.heap.size w wr)) (fun _ v _ => t.size - (intOf v).toNat)
  case atStart => exact ⟨0, [], by omega, rfl, by simp, World.ownsRow_nil _ _ _ _, ⟨t.size, by omega, HRR.out⟩, hid (fun x hx => by simp at hx), Below.refl _ _⟩
  case round =>
    obtain ⟨i, acc, hi, rfl, hal, HO, HT, HF, HB⟩ := hrel
    by_cases hlt : i < t.size
    case neg =>
      have HR := hid (HLO.out acc (tkRest_end HT.out hlt))
      have HG := hid (GivesTks.some HR.out HO.out HF.out HB.out)
      go_wp2_with fail
      go_ret3
      exact HG.out
    case pos =>
      have HBI := hid (byteAt_eq hlt)
      have HIX := hid (fun W => Tryd.strings_IndexByte blkS (t[i].toNat : Int) W)
      have hx : decide (0 ≤ Lib.indexByte blkS.data.toList ((t[i].toNat : Int)).toNat.toUInt8) = inL blkL (byteAt t i) := by
        rw [toU8, HBI.out]; exact idx_inL blkL t[i]
      generalize Lib.indexByte blkS.data.toList ((t[i].toNat : Int)).toNat.toUInt8 = ix at HIX hx
      cases hb : inL blkL (byteAt t i)
      case true =>
        rw [hb] at hx
        have HT2 := hid (tkRest_blank HT.out hlt hb)
        clear hb
        go_wp2_with fail
        refine (HIX.out _).mono ?_
        rintro e w1 ⟨rfl, rfl⟩
        go_wp2_with fail
        go_roundw
        case rel => exact ⟨i + 1, acc, by omega, by go_num, by omega, HO, HT2, HF, HB⟩
        case measure => first | (simp [intOf]; done) | (simp [intOf]; omega)
      case false =>
        rw [hb] at hx
        have HC := hid (fun W (h : Below w.heap.size w W) => impl_tokenEnd t i hlt hs W (HP.out.below h) (HER.out.below h))
        by_cases hk : (tkAt t i).1 = 0
        case pos =>
          have HR := hid (HLB.out acc i (tkRest_bad HT.out hlt hb hk))
          have hk2 := hk
          generalize tkAt t i = q at HC hk2
          obtain ⟨k, e0⟩ := q
          simp only at hk2
          subst hk2
          clear hb hk
          go_wp2_with fail
          refine (HIX.out _).mono ?_
          rintro e w1 ⟨rfl, rfl⟩
          go_wp2_with fail
          refine (HC.out _ HB.out).mono ?_
          rintro e w2 ⟨rfl, hb2⟩
          have HB2 := hid (HB.out.trans (hb2.mono HB.out.size))
          clear hb2
          go_wp2_with fail
          go_ret3
          exact GivesTks.none HR.out HB2.out
        case neg =>
          have HT2 := hid (tkRest_more HT.out hlt hb hk)
          obtain ⟨hb1, hb2⟩ := tkAt_bound hlt hk
          have hin := tkAt_in t i
          generalize tkAt t i = q at HC HT2 hb1 hb2 hin hk
          obtain ⟨k, e0⟩ := q
          simp only at HT2 hb1 hb2 hin hk
          have hkf : (k == 0) = false := by simpa using hk
          have hle : i ≤ e0 := Nat.le_of_lt hb1
          have hle2 : (i : Int) ≤ (e0 : Int) := by omega
          have hle3 : (e0 : Int) ≤ (t.size : Int) := by omega
          have hse : (t.extract i e0).size = e0 - i := by rw [ByteArray.size_extract]; omega
          have HF2 := hid (show ∀ x ∈ acc ++ [Tk.mk k (t.extract i e0) i], tkFine x by
            intro x hx
            rcases List.mem_append.1 hx with h | h
            · exact HF.out x h
            · simp only [List.mem_singleton] at h
              subst h
              exact ⟨hin, by omega, by omega, by omega⟩)
          clear hb hk hin hse
          go_wp2_with fail
          refine (HIX.out _).mono ?_
          rintro e w1 ⟨rfl, rfl⟩
          go_wp2_with fail
          refine (HC.out _ HB.out).mono ?_
          rintro e w2 ⟨rfl, hb3⟩
          have HO2 := hid (ownsRow.below HO.out hb3)
          have HB2 := hid (HB.out.trans (hb3.mono HB.out.size))
          clear hb3
          go_wp2_with (at_builtin; refine wpList_append_tk rfl _ _ rfl w.heap.size _ acc k (t.extract i e0) i ⟨w2.heap.size, 0, none⟩ rfl rfl (HO2.out.alloc _) (World.news_of_block (heap_alloc_new w2 _)) ?c1 ?c2 ?_)
          case c1 => omega
          case c2 => exact Nat.le_trans HB2.out.size (by simp)
          intro v2 w3 ho2 hg2
          have HO3 := hid (show OwnTk w3 w.heap.size v2 (acc ++ [Tk.mk k (t.extract i e0) i]) by simpa [OwnTk] using ho2)
          have HB3 := hid (OwnTk.next (HB2.out.alloc HB2.out.size _) (Nat.le_trans HB2.out.size (by simp)) (HO2.out.alloc _) hg2)
          clear ho2 hg2
          go_wp2_with fail
          go_roundw
          case rel => exact ⟨e0, acc ++ [Tk.mk k (t.extract i e0) i], hb2, by go_num, by simp; omega, HO3, HT2, HF2, HB3⟩
          case measure => first | (simp [intOf]; done) | (simp [intOf]; omega)
end Go.Proofs.YtikhofcjkcbpbaaDoor
