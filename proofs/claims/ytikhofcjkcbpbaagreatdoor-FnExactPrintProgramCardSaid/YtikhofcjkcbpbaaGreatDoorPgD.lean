/- Merged texts: Bld PpP PpS PpT PpI. No condition. -/
import Derived.Test.YtikhofcjkcbpbaaGreatDoorShelf
import Derived.Test.YtikhofcjkcbpbaaGreatDoorPrAll
import Derived.Test.YtikhofcjkcbpbaaGreatDoorKeep
import Derived.Shelf.Strings.BuilderK
import Derived.Test.YtikhofcjkcbpbaaGreatDoorPgA
import Derived.Test.YtikhofcjkcbpbaaGreatDoorPgB
import Derived.Deep.RegionHeld3
import Derived.Deep.AppendLies
/- was: Bld -/
namespace Go.Proofs.YtikhofcjkcbpbaaGreatDoor
open Go.ChangeShapes Go.WideShapes Go.ChangeAt Go.RowKit Go.BigFrame
open Go.Sort (grow)
set_option linter.unusedVariables false

def bldRen : Go.Shelf.Ren := ⟨fun | 166 => 39 | 240 => 69 | 276 => 96 | n => n, fun | 70 => 80 | 3 => 3 | 0 => 0 | 4 => 4 | 9 => 9 | 20 => 20 | 72 => 83 | 37 => 81 | 164 => 143 | 5 => 5 | 75 => 88 | 80 => 92 | n => n, fun | n => n⟩
theorem bldLays : Go.Proofs.Lays.n166 Tryz.prog bldRen := {
  mixed := by kernel_rfl
  f166 := Tryz.func39.trans (congrArg some (by kernel_rfl))
  f240 := Tryz.func69.trans (congrArg some (by kernel_rfl))
  f276 := Tryz.func96.trans (congrArg some (by kernel_rfl))
  t0 := Tryz.underlying0
  a0 := Tryz.isAgg0
  z0 := Tryz.sizeOf0
  v0 := Tryz.zeroValue0
  t3 := Tryz.underlying3
  a3 := Tryz.isAgg3
  z3 := Tryz.sizeOf3
  v3 := Tryz.zeroValue3
  t4 := Tryz.underlying4
  a4 := Tryz.isAgg4
  z4 := Tryz.sizeOf4
  v4 := Tryz.zeroValue4
  t9 := Tryz.underlying9
  a9 := Tryz.isAgg9
  z9 := Tryz.sizeOf9
  v9 := Tryz.zeroValue9
  t20 := Tryz.underlying20
  a20 := Tryz.isAgg20
  z20 := Tryz.sizeOf20
  v20 := Tryz.zeroValue20
  t37 := Tryz.underlying81
  a37 := Tryz.isAgg81
  z37 := Tryz.sizeOf81
  v37 := Tryz.zeroValue81
  t70 := Tryz.underlying80
  a70 := Tryz.isAgg80
  z70 := Tryz.sizeOf80
  v70 := Tryz.zeroValue80
  t72 := Tryz.underlying83
  a72 := Tryz.isAgg83
  z72 := Tryz.sizeOf83
  v72 := Tryz.zeroValue83
  t75 := Tryz.underlying88
  a75 := Tryz.isAgg88
  z75 := Tryz.sizeOf88
  v75 := Tryz.zeroValue88
  t164 := Tryz.underlying143
  a164 := Tryz.isAgg143
  z164 := Tryz.sizeOf143
  v164 := Tryz.zeroValue143 }
theorem bldExtra : Builder.Extra Tryz.prog bldRen := {
  sizeBuilder := by kernel_rfl
  liesBuilder := by kernel_rfl
  t5 := Tryz.underlying5
  a5 := Tryz.isAgg5
  z5 := Tryz.sizeOf5
  v5 := Tryz.zeroValue5
  infoByte := by kernel_rfl
  cellsByte := by kernel_rfl
  sizeByte := by kernel_rfl
  neB5 := by decide }
/-- A builder of the call's own (block b, from B on) holds x. -/
def Bld (w : World) (B b : Nat) (x : ByteArray) : Prop := Lib.IsBuilderF 83 5 B b (Lib.byteCells x.data.toList) w
theorem bld_write {w : World} {B b : Nat} {x s : ByteArray} (h : Bld w B b x) (hlen : x.size + s.size ≤ 140737488355328) (hBw : B ≤ w.heap.size) :
    Calls Tryz.prog 39 #[.pointer (some ⟨b, 0, none⟩), .string s] w fun e w' => e = .returned (.tuple #[.int .i64 s.size, .nilIface]) ∧ Bld w' B b (x ++ s) ∧ Below B w w' ∧ Lib.OthersKept 5 (some b) w w' := by
  refine (Any.Builder_WriteString_k bldLays bldExtra B b (Lib.byteCells x.data.toList) s w h (by rw [Lib.byteCells_length]; exact hlen) hBw).mono ?_
  rintro e w' ⟨he, h1, h2, h3⟩
  refine ⟨he, Or.inr ?_, h2, h3⟩
  have hh : Lib.byteCells (x ++ s).data.toList = Lib.byteCells x.data.toList ++ Lib.strCells s := by
    unfold Lib.byteCells Lib.strCells
    rw [data_app x s, List.map_append]
  rw [hh]
  exact h1
theorem bld_string {w : World} {B b : Nat} {x : ByteArray} (h : Bld w B b x) (hBw : B ≤ w.heap.size) :
    Calls Tryz.prog 41 #[.pointer (some ⟨b, 0, none⟩)] w fun e w' => e = .returned (.string x) ∧ Below B w w' := by
  refine (Any.Builder_String_any_k Tryz.lays169 Tryz.Builder_Extra_169 B b x.data.toList w h hBw).mono ?_
  rintro e w' ⟨he, -, h2, -⟩
  exact ⟨he, h2⟩
theorem Bld.below {w w' : World} {B b : Nat} {x : ByteArray} (h : Bld w B b x) (hb : Below w.heap.size w w') : Bld w' B b x := by
  have key : ∀ p, Lib.BuilderAtF 83 5 B b p (Lib.byteCells x.data.toList) w → Lib.BuilderAtF 83 5 B b p (Lib.byteCells x.data.toList) w' := by
    rintro p ⟨hB, v, hc, hown, hne⟩
    refine ⟨hB, v, (hb.block _ (Array.getElem?_eq_some_iff.1 hc).1).trans hc, ?_, hne⟩
    refine ⟨hown.1, ?_⟩
    rcases hown.2 with h | ⟨g, cap, cur, fz, e, hbg, hg, hr⟩
    · exact Or.inl h
    · exact Or.inr ⟨g, cap, cur, fz, e, hbg, (hb.block _ (Array.getElem?_eq_some_iff.1 hg).1).trans hg, hr⟩
  exact h.elim (fun h => Or.inl (key _ h)) (fun h => Or.inr (key _ h))
theorem Bld.lt {w : World} {B b : Nat} {x : ByteArray} (h : Bld w B b x) : b < w.heap.size := h.elim (fun h => h.lt) (fun h => h.lt)
theorem Bld.new (w : World) (B : Nat) (h : B ≤ w.heap.size) : Bld (w.alloc (.cells #[.pointer none, .slice none 0 0] 83)) B w.heap.size ⟨#[]⟩ :=
  Or.inl ⟨h, .slice none 0 0, heap_alloc_new w _, World.ownsRowF_nil _ _ _ _, by simp [Value.ownBlock]⟩
/-- Another block than the builder's is as it was. -/
theorem kept_block {w w' : World} {b k : Nat} {c : Array Value} {t : TypeId} {fr : Nat × Nat} (h : Lib.OthersKept 5 (some b) w w') (hk : w.heap[k]? = some (.cells c t fr)) (hb : k ≠ b) (ht : t ≠ 5) : w'.heap[k]? = some (.cells c t fr) :=
  h k _ hk (by simpa using hb) (fun c' fz e => by cases e; exact ht rfl)
end Go.Proofs.YtikhofcjkcbpbaaGreatDoor
/- was: PpP -/
namespace Go.Proofs.YtikhofcjkcbpbaaGreatDoor
open Go.RowKit

abbrev bar : ByteArray := ⟨#[32, 124, 32]⟩
abbrev kwData : ByteArray := ⟨#[100, 97, 116, 97, 32]⟩
abbrev kwDef : ByteArray := ⟨#[100, 101, 102, 32]⟩
def conTxt : Con → ByteArray
  | .mk n fs => n ++ brk (fs.map Ty.text)
def datTxt : Dat → ByteArray
  | .mk n qs => (((kwData ++ n) ++ ⟨#[32, 61, 32]⟩) ++ joinS bar (qs.map conTxt)) ++ ⟨#[10]⟩
def dfTxt : Df → ByteArray
  | .mk n t b => (((((kwDef ++ n) ++ ⟨#[32, 58, 32]⟩) ++ Ty.text t) ++ ⟨#[32, 61, 32]⟩) ++ Tm.text b) ++ ⟨#[10]⟩
def cats (l : List ByteArray) : ByteArray := l.foldl (· ++ ·) ⟨#[]⟩
theorem cats_snoc (l : List ByteArray) (x : ByteArray) : cats (l ++ [x]) = cats l ++ x := by simp [cats]
/-- The text of the first i declarations and the first j definitions. -/
def pgTo (ds : List Dat) (i : Nat) (fs : List Df) (j : Nat) : ByteArray := cats ((ds.take i).map datTxt ++ (fs.take j).map dfTxt)
def pgTxt (ds : List Dat) (fs : List Df) : ByteArray := cats (ds.map datTxt ++ fs.map dfTxt)
theorem pgTo_zero (ds : List Dat) (fs : List Df) : pgTo ds 0 fs 0 = ⟨#[]⟩ := by simp [pgTo, cats]
theorem take_map_snoc {α : Type} (f : α → ByteArray) (l : List α) (i : Nat) (d : α) (h : l[i]? = some d) : (l.take (i + 1)).map f = (l.take i).map f ++ [f d] := by
  obtain ⟨hlt, he⟩ := List.getElem?_eq_some_iff.1 h
  rw [List.take_succ_eq_append_getElem hlt, he]
  simp
theorem pgTo_data (ds : List Dat) (i : Nat) (fs : List Df) (d : Dat) (h : ds[i]? = some d) : pgTo ds (i + 1) fs 0 = pgTo ds i fs 0 ++ datTxt d := by
  unfold pgTo
  rw [take_map_snoc datTxt ds i d h]
  simp only [List.take_zero, List.map_nil, List.append_nil]
  exact cats_snoc _ _
theorem pgTo_def (ds : List Dat) (fs : List Df) (j : Nat) (d : Df) (h : fs[j]? = some d) : pgTo ds ds.length fs (j + 1) = pgTo ds ds.length fs j ++ dfTxt d := by
  unfold pgTo
  rw [take_map_snoc dfTxt fs j d h, ← List.append_assoc]
  exact cats_snoc _ _
theorem pgTo_all (ds : List Dat) (fs : List Df) : pgTo ds ds.length fs fs.length = pgTxt ds fs := by simp [pgTo, pgTxt]
/-- A declaration's text up to some of its constructors, as the reference makes it. -/
def dpre (n : ByteArray) (cs : List Con) : ByteArray := if cs = [] then (kwData ++ n) ++ ⟨#[32, 61]⟩ else ((kwData ++ n) ++ ⟨#[32, 61, 32]⟩) ++ joinS bar (cs.map conTxt)
theorem dpre_nil (n : ByteArray) : dpre n [] = (kwData ++ n) ++ ⟨#[32, 61]⟩ := rfl
theorem dpre_one (n m : ByteArray) (fs : List Ty) : ((kwData ++ n) ++ ⟨#[32, 61]⟩) ++ ((⟨#[32]⟩ ++ m) ++ brk (fs.map Ty.text)) = dpre n [Con.mk m fs] := by
  have e : dpre n [Con.mk m fs] = ((kwData ++ n) ++ ⟨#[32, 61, 32]⟩) ++ (m ++ brk (fs.map Ty.text)) := by
    unfold dpre
    rw [if_neg (by simp)]
    rfl
  rw [e]
  apply WideShapes.bytes_inj
  simp
theorem dpre_more (n m : ByteArray) (fs : List Ty) (cs : List Con) (h : cs ≠ []) : (dpre n cs ++ ⟨#[32, 124]⟩) ++ ((⟨#[32]⟩ ++ m) ++ brk (fs.map Ty.text)) = dpre n (cs ++ [Con.mk m fs]) := by
  unfold dpre
  rw [if_neg h, if_neg (by simp), List.map_append, List.map_cons, List.map_nil, joinS_snoc _ _ (by simpa using h)]
  apply WideShapes.bytes_inj
  simp [conTxt]
theorem dpre_end (n : ByteArray) (qs : List Con) (h : qs ≠ []) : dpre n qs ++ ⟨#[10]⟩ = datTxt (Dat.mk n qs) := by
  unfold dpre
  rw [if_neg h]
  rfl
theorem con_take (qs : List Con) (i : Nat) (c : Con) (h : qs[i]? = some c) : qs.take (i + 1) = qs.take i ++ [c] := by
  obtain ⟨hlt, he⟩ := List.getElem?_eq_some_iff.1 h
  rw [List.take_succ_eq_append_getElem hlt, he]
/-- What a right declaration bears. -/
def conFine : Con → Prop
  | .mk _ fs => fs.length ≤ 3 ∧ ∀ (j : Nat) t, fs[j]? = some t → Ty.ok t = true
def datFine : Dat → Prop
  | .mk _ qs => 1 ≤ qs.length ∧ qs.length ≤ 4 ∧ ∀ (j : Nat) c, qs[j]? = some c → conFine c
def dfFine : Df → Prop
  | .mk _ t b => Ty.ok t = true ∧ Tm.ok b = true
theorem fieldsOk_get (ts : List Dat) : ∀ (us : List Ty) (j : Nat) (t : Ty), fieldsOk ts us = true → us[j]? = some t → Ty.ok t = true
  | [], j, t, _, h => by simp at h
  | u :: us, 0, t, h, e => by
    simp at e; subst e
    simp only [fieldsOk, fieldOk, Bool.and_eq_true] at h
    exact h.1.1
  | u :: us, j + 1, t, h, e => by
    simp only [fieldsOk, Bool.and_eq_true] at h
    exact fieldsOk_get ts us j t h.2 (by simpa using e)
theorem conOk_fine {ts : List Dat} {c : Con} (h : conOk ts c = true) : conFine c := by
  obtain ⟨n, fs⟩ := c
  simp only [conOk, Bool.and_eq_true, decide_eq_true_eq] at h
  exact ⟨h.2.1, fun j t e => fieldsOk_get ts fs j t h.2.2 e⟩
theorem consFrom_get (ts : List Dat) : ∀ (cs : List Con) (seen s : List ByteArray) (j : Nat) (c : Con), consFrom ts cs seen = some s → cs[j]? = some c → conFine c
  | [], _, _, j, c, _, h => by simp at h
  | u :: us, seen, s, j, c, h, e => by
    rw [consFrom] at h
    split at h
    · rename_i hc
      simp only [Bool.and_eq_true] at hc
      cases j with
      | zero => simp at e; subst e; exact conOk_fine hc.1
      | succ j => exact consFrom_get ts us _ s j c h (by simpa using e)
    · cases h
theorem datsFrom_get (ts : List Dat) : ∀ (ds : List Dat) (i : Nat) (seen : List ByteArray) (j : Nat) (d : Dat), datsFrom ts ds i seen = true → ds[j]? = some d → datFine d
  | [], _, _, j, d, _, h => by simp at h
  | u :: us, i, seen, j, d, h, e => by
    rw [datsFrom] at h
    simp only [Bool.and_eq_true] at h
    obtain ⟨h1, h2⟩ := h
    split at h2
    · rename_i s hs
      cases j with
      | zero =>
        simp at e; subst e
        obtain ⟨n, qs⟩ := u
        simp only [headOk, Bool.and_eq_true] at h1
        have h3 := inR_iffP.1 h1.2.2.2
        exact ⟨by omega, by omega, fun j c e => consFrom_get ts qs seen s j c hs e⟩
      | succ j => exact datsFrom_get ts us (i + 1) s j d h2 (by simpa using e)
    · cases h2
theorem dfsOk_get (fs : List Df) : ∀ (ds : List Df) (i j : Nat) (d : Df), dfsOk fs ds i = true → ds[j]? = some d → dfFine d
  | [], _, j, d, _, h => by simp at h
  | u :: us, i, j, d, h, e => by
    rw [dfsOk] at h
    simp only [Bool.and_eq_true] at h
    cases j with
    | zero =>
      simp at e; subst e
      obtain ⟨n, t, b⟩ := u
      have h1 := h.1
      rw [dfOk_eq] at h1
      simp only [Bool.and_eq_true] at h1
      exact ⟨h1.2.2.1, h1.2.2.2⟩
    | succ j => exact dfsOk_get fs us (i + 1) j d h.2 (by simpa using e)
theorem progOk_fine {ds : List Dat} {fs : List Df} (h : progOk ds fs = true) : ds.length ≤ 4 ∧ fs.length ≤ 8 ∧ (∀ (j : Nat) d, ds[j]? = some d → datFine d) ∧ ∀ (j : Nat) d, fs[j]? = some d → dfFine d := by
  simp only [progOk, datasOk, Bool.and_eq_true, decide_eq_true_eq] at h
  have h3 := inR_iffP.1 h.2.1
  exact ⟨h.1.1, by omega, fun j d e => datsFrom_get ds ds 0 [] j d h.1.2 e, fun j d e => dfsOk_get fs fs 0 j d h.2.2 e⟩
def prPg (ds : List Dat) (fs : List Df) : ByteArray := if progOk ds fs then (if 20000 < (pgTxt ds fs).size then ⟨#[]⟩ else pgTxt ds fs) else ⟨#[]⟩
/-- Sizes. -/
theorem tys_pos {fs : List Ty} (h : ∀ (j : Nat) t, fs[j]? = some t → Ty.ok t = true) : ∀ x ∈ fs.map Ty.text, 1 ≤ x.size := by
  intro x hx
  obtain ⟨t, ht, rfl⟩ := List.mem_map.1 hx
  obtain ⟨j, hj⟩ := List.getElem?_of_mem ht
  exact Ty.ok_text_pos (h j t hj)
theorem tys_szs : ∀ (fs : List Ty), Ty.bulks fs ≤ 1048576 → szs (fs.map Ty.text) ≤ 9437192 * fs.length
  | [], _ => by simp [szs]
  | t :: fs, h => by
    have hb : Ty.bulks (t :: fs) = 1 + Ty.bulk t + Ty.bulks fs := by cases t; rfl
    have h1 := Ty.text_small (t := t) (by omega)
    have h2 := tys_szs fs (by omega)
    simp only [List.map_cons, szs, List.length_cons]
    omega
theorem con_small {n : ByteArray} {fs : List Ty} (hf : fs.length ≤ 3) (h : Con.bulk (Con.mk n fs) ≤ 1048576) : (conTxt (Con.mk n fs)).size ≤ 30000000 ∧ (brk (fs.map Ty.text)).size ≤ 28900000 ∧ szs (fs.map Ty.text) ≤ 28400000 ∧ n.size ≤ 1048576 := by
  have hb : Con.bulk (Con.mk n fs) = n.size + Ty.bulks fs := rfl
  have h1 := tys_szs fs (by omega)
  have h2 := brk_size (fs.map Ty.text)
  rw [List.length_map] at h2
  have e : conTxt (Con.mk n fs) = n ++ brk (fs.map Ty.text) := rfl
  rw [e, ByteArray.size_append]
  omega
theorem cons_szs : ∀ (qs : List Con), (∀ (j : Nat) c, qs[j]? = some c → conFine c) → Con.bulks qs ≤ 1048576 → szs (qs.map conTxt) ≤ 30000000 * qs.length
  | [], _, _ => by simp [szs]
  | .mk n fs :: qs, hf, h => by
    have hb : Con.bulks (Con.mk n fs :: qs) = 1 + Con.bulk (Con.mk n fs) + Con.bulks qs := rfl
    have h1 := (con_small (n := n) (fs := fs) (hf 0 _ rfl).1 (by omega)).1
    have h2 := cons_szs qs (fun j c e => hf (j + 1) c (by simpa using e)) (by omega)
    simp only [List.map_cons, szs, List.length_cons]
    omega
theorem con_get {n : ByteArray} {fs : List Ty} {qs : List Con} {j : Nat} (h : qs[j]? = some (Con.mk n fs)) (hM : Con.bulks qs ≤ 1048576) : Con.bulk (Con.mk n fs) ≤ 1048576 := by have := Con.bulk_get qs j _ h; omega
theorem szs_take_map {α : Type} (f : α → ByteArray) (l : List α) (j : Nat) : szs ((l.take j).map f) ≤ szs (l.map f) := by
  rw [List.map_take]; exact szs_take _ j
theorem join_cons_small {qs : List Con} (hf : ∀ (j : Nat) c, qs[j]? = some c → conFine c) (hl : qs.length ≤ 4) (hM : Con.bulks qs ≤ 1048576) (j : Nat) : (joinS bar ((qs.take j).map conTxt)).size ≤ 120000012 := by
  have h1 := cons_szs qs hf hM
  have h2 := szs_take_map conTxt qs j
  have h3 := joinS_size bar ((qs.take j).map conTxt)
  have e : bar.size = 3 := rfl
  rw [List.length_map, List.length_take, e] at h3
  omega
theorem dpre_small {n : ByteArray} {qs : List Con} (hn : n.size ≤ 1048576) (hf : ∀ (j : Nat) c, qs[j]? = some c → conFine c) (hl : qs.length ≤ 4) (hM : Con.bulks qs ≤ 1048576) (j : Nat) : (dpre n (qs.take j)).size ≤ 122000000 := by
  have h1 := join_cons_small hf hl hM j
  have e1 : kwData.size = 5 := rfl
  have e2 : (⟨#[32, 61]⟩ : ByteArray).size = 2 := rfl
  have e3 : (⟨#[32, 61, 32]⟩ : ByteArray).size = 3 := rfl
  unfold dpre
  split
  · simp only [ByteArray.size_append, e1, e2]; omega
  · simp only [ByteArray.size_append, e1, e3]; omega
theorem dat_small {n : ByteArray} {qs : List Con} (h : datFine (Dat.mk n qs)) (hM : Dat.bulk (Dat.mk n qs) ≤ 1048576) : (datTxt (Dat.mk n qs)).size ≤ 123000000 := by
  have hb : Dat.bulk (Dat.mk n qs) = n.size + Con.bulks qs := rfl
  have h1 := dpre_small (n := n) (qs := qs) (by omega) h.2.2 h.2.1 (by omega) qs.length
  rw [List.take_length] at h1
  have hne : qs ≠ [] := by intro e; subst e; exact absurd h.1 (by simp)
  rw [← dpre_end n qs hne, ByteArray.size_append]
  have e : (⟨#[10]⟩ : ByteArray).size = 1 := rfl
  omega
theorem df_small {n : ByteArray} {t : Ty} {b : Tm} (h : dfFine (Df.mk n t b)) (hM : Df.bulk (Df.mk n t b) ≤ 1048576) : (dfTxt (Df.mk n t b)).size ≤ 123000000 := by
  have hb : Df.bulk (Df.mk n t b) = n.size + Ty.bulk t + Tm.bulk b := rfl
  have h1 := Ty.text_small (t := t) (by omega)
  have h2 := Tm.text_small (t := b) (by have := h.2; simp only [Tm.ok, Bool.and_eq_true] at this; exact this.1) (by omega)
  have e1 : kwDef.size = 4 := rfl
  have e2 : (⟨#[32, 58, 32]⟩ : ByteArray).size = 3 := rfl
  have e3 : (⟨#[32, 61, 32]⟩ : ByteArray).size = 3 := rfl
  have e4 : (⟨#[10]⟩ : ByteArray).size = 1 := rfl
  have e : dfTxt (Df.mk n t b) = (((((kwDef ++ n) ++ ⟨#[32, 58, 32]⟩) ++ Ty.text t) ++ ⟨#[32, 61, 32]⟩) ++ Tm.text b) ++ ⟨#[10]⟩ := rfl
  rw [e]
  simp only [ByteArray.size_append, e1, e2, e3, e4]
  omega
end Go.Proofs.YtikhofcjkcbpbaaGreatDoor
/- was: PpS -/
namespace Go.Proofs.YtikhofcjkcbpbaaGreatDoor
open Go.ChangeShapes Go.WideShapes Go.ChangeAt Go.RowKit Go.BigFrame
open Go.Sort (grow)
set_option linter.unusedVariables false

set_option maxRecDepth 100000 in
set_option maxHeartbeats 4000000 in
theorem spec_l04Data (n : ByteArray) (qs : List Con) (aqs : Option Addr) (cqs b1 o1 : Nat) (w : World) (hf : datFine (Dat.mk n qs)) (hM : Dat.bulk (Dat.mk n qs) ≤ 1048576) (x0 : w.cell? ⟨b1, o1, none⟩ = some (.string n)) (x1 : w.cell? ⟨b1, o1 + 1, none⟩ = some (.slice aqs qs.length cqs)) (hr : RdS w (Dat.d (Dat.mk n qs)) [.string n, .slice aqs qs.length cqs]) :
    Calls Tryz.prog 32 #[.pointer (some ⟨b1, o1, none⟩)] w fun e w' => e = .returned (.string (datTxt (Dat.mk n qs))) ∧ Below w.heap.size w w' := by
  have hb : Dat.bulk (Dat.mk n qs) = n.size + Con.bulks qs := rfl
  have hn : n.size ≤ 1048576 := by omega
  have hMq : Con.bulks qs ≤ 1048576 := by omega
  obtain ⟨hq1, hq4, hfc⟩ := hf
  obtain ⟨_, _, e, h2, h3, h4⟩ := hr.fDat.2.eCon
  simp only [Value.slice.injEq, true_and] at e
  obtain ⟨rfl, rfl⟩ := e
  obtain ⟨b, o, rfl, hbl, hall⟩ := h4 (by omega)
  have H4 := hid hall
  have hb1 := World.block_lt_of_cell? _ _ x0
  have X0 := hid x0
  have X1 := hid x1
  have HFC := hid hfc
  have HDS := hid (fun j => dpre_small (n := n) (qs := qs) hn hfc hq4 hMq j)
  have HEN := hid (dpre_end n qs (by intro e; subst e; exact absurd hq1 (by simp)))
  have HMQ := hid hMq
  have e1 : (⟨#[100, 97, 116, 97, 32]⟩ : ByteArray).size = 5 := rfl
  have e2 : ((⟨#[100, 97, 116, 97, 32]⟩ : ByteArray) ++ n).size = 5 + n.size := by rw [ByteArray.size_append, e1]
  have e3 : (⟨#[32, 61]⟩ : ByteArray).size = 2 := rfl
  have e4 : (⟨#[32, 124]⟩ : ByteArray).size = 2 := rfl
  have e5 : (⟨#[10]⟩ : ByteArray).size = 1 := rfl
  have e6 : (⟨#[32]⟩ : ByteArray).size = 1 := rfl
  clear hall h4 h2 h3 hr hfc hM hb hMq hq1
  go_enter Tryz.func32, Tryz.ntmps32
  go_wp2_with fail
  clear e1 e2 e3
  go_loopw [3, 4] (fun t i wr => ∃ (j : Nat) (x : ByteArray), j ≤ qs.length ∧ i = .int .i64 j ∧ t = .string x ∧ x.size ≤ 122000000 ∧ Hid (x = dpre n (qs.take j)) ∧ Hid (Below w.heap.size w wr)) (fun _ i _ => qs.length - (intOf i).toNat)
  case atStart => exact ⟨0, _, by omega, rfl, rfl, HDS.out 0, hid rfl, Below.refl _ _⟩
  case round =>
    obtain ⟨j, x, hj, rfl, rfl, hx, HX, HB⟩ := hrel
    rename World => wo
    have z0 := (HB.out.cell (p := ⟨b1, o1, none⟩) hb1).trans X0.out
    have z1 := (HB.out.cell (p := ⟨b1, o1 + 1, none⟩) hb1).trans X1.out
    by_cases hlt : j < qs.length
    case neg =>
      have HE := hid (show x ++ ⟨#[10]⟩ = datTxt (Dat.mk n qs) by rw [HX.out, List.take_of_length_le (by omega)]; exact HEN.out)
      go_wp2_with fail
      go_ret
      exact ret_strB HE.out HB.out
    case pos =>
      obtain ⟨c, hc⟩ : ∃ c, qs[j]? = some c := ⟨_, List.getElem?_eq_getElem hlt⟩
      obtain ⟨m, fs⟩ := c
      obtain ⟨afs, cfs, q0, q1, hrc⟩ := H4.out j m fs hc
      have hfn := HFC.out j _ hc
      have hmc := con_get hc HMQ.out
      obtain ⟨hs1, hs2, hs3, hs4⟩ := con_small hfn.1 hmc
      have p0 := (HB.out.cell (p := ⟨b, o + j * 2, none⟩) hbl).trans q0
      have p1 := (HB.out.cell (p := ⟨b, o + j * 2 + 1, none⟩) hbl).trans q1
      have HTK := hid (con_take qs j _ hc)
      have HFT := hid hfn.2
      have hf3 := hfn.1
      have HTP := hid (tys_pos hfn.2)
      have HMC := hid (show Ty.bulks fs ≤ 1048576 by have : Con.bulk (Con.mk m fs) = m.size + Ty.bulks fs := rfl; omega)
      have HRC := hid hrc.fCon.2
      have P0 := hid q0
      have P1 := hid q1
      clear hc hrc q0 q1 hfn hmc
      by_cases hj0 : j = 0
      case pos =>
        have gj : decide ((0 : Int) < (j : Int)) = false := decide_eq_false (by omega)
        have gk : decide (0 < j) = false := decide_eq_false (by omega)
        have HN := hid (show x ++ ((⟨#[32]⟩ ++ m) ++ brk (fs.map Ty.text)) = dpre n (qs.take (j + 1)) by rw [HTK.out, HX.out, show qs.take j = [] from (by rw [hj0]; rfl)]; exact dpre_one n m fs)
        clear hj0
        go_wp2_with fail
        clear gj gk p0 p1 z0 z1
        go_loopw [5, 6] (fun t i wr => ∃ (k : Nat) (v0 : Value), k ≤ fs.length ∧ i = .int .i64 k ∧ v0 = t ∧ Hid (OwnStr wr wo.heap.size v0 ((fs.map Ty.text).take k)) ∧ Hid (Below wo.heap.size wo wr)) (fun _ i _ => fs.length - (intOf i).toNat)
        case atStart => exact ⟨0, .slice (some ⟨wo.heap.size, 0, none⟩) 0 0, by omega, rfl, rfl, World.ownsRow_made wo #[] 0 (Nat.le_refl _) (by unfold maxLen; omega) rfl, (Below.refl _ _).alloc (Nat.le_refl _) _⟩
        case round =>
          obtain ⟨k, v0, hk, rfl, rfl, HO, HBK⟩ := hrel
          have HBW := hid (HB.out.trans (HBK.out.mono HB.out.size))
          have z1 := (HBW.out.cell (p := ⟨b1, o1 + 1, none⟩) hb1).trans X1.out
          have p0 := (HBW.out.cell (p := ⟨b, o + j * 2, none⟩) hbl).trans P0.out
          have p1 := (HBW.out.cell (p := ⟨b, o + j * 2 + 1, none⟩) hbl).trans P1.out
          by_cases hkl : k < fs.length
          case neg =>
            have hown := HO.out
            rw [List.take_of_length_le (by rw [List.length_map]; omega)] at hown
            have hnm := fun d os => Calls.regrown_of (spec_Names (fs.map Ty.text) v0 (grow (redrawn wr d) os) (by rw [List.length_map]; omega) (by omega) HTP.out ((StrIn.of_own hown).below (below_regrown wr d os)))
            have r1 := cell_regrown z1
            have r2 := cell_regrown p0
            have HZB := hid HBW
            generalize brk (fs.map Ty.text) = z at HN hnm hs2
            have HNM := hid hnm
            have e8 : ((⟨#[32]⟩ : ByteArray) ++ m).size = 1 + m.size := by rw [ByteArray.size_append, e6]
            have e9 : (((⟨#[32]⟩ : ByteArray) ++ m) ++ z).size = 1 + m.size + z.size := by rw [ByteArray.size_append, e8]
            clear hnm hown
            go_wp2_with fail
            clear p0 p1 z1
            refine wp_region_quiet_below (by kernel_rfl) (by kernel_rfl) ?_
            repeat (go_big_quiet_step (with_reducible exact HNM.out _ _))
            refine wpQuiet_nil ?_
            intro _ hw'
            obtain ⟨⟨dq, osq⟩, hw''⟩ := hw'
            subst hw''
            have HBZ := hid (HBW.out.trans ((below_regrown wr dq osq).mono HBW.out.size))
            clear HNM r1 r2
            go_wp2_with fail
            go_roundw
            case rel => exact ⟨j + 1, _, by omega, by go_num, rfl, by rw [HN.out]; exact HDS.out (j + 1), HN, HBZ⟩
            case measure => first | (simp [intOf]; done) | (simp [intOf]; omega)
          case pos =>
            obtain ⟨_, _, e, _, _, h4⟩ := HRC.out.eTy
            simp only [Value.slice.injEq, true_and] at e
            obtain ⟨rfl, rfl⟩ := e
            obtain ⟨bt, ot, rfl, hbt, hall⟩ := h4 (by omega)
            obtain ⟨t, ht⟩ : ∃ t, fs[k]? = some t := ⟨_, List.getElem?_eq_getElem hkl⟩
            have hsn := take_map_snoc Ty.text fs k t ht
            rw [List.map_take, List.map_take] at hsn
            have hbt2 := Ty.bulk_get fs k t ht
            obtain ⟨tk, tn, tks⟩ := t
            obtain ⟨atks, ctks, q0, q1, q2, hrt⟩ := hall k tk tn tks ht
            have d0 := (HBW.out.cell (p := ⟨bt, ot + k * 3, none⟩) hbt).trans q0
            have d1 := (HBW.out.cell (p := ⟨bt, ot + k * 3 + 1, none⟩) hbt).trans q1
            have d2 := (HBW.out.cell (p := ⟨bt, ot + k * 3 + 2, none⟩) hbt).trans q2
            have hc := spec_TypeText tk tn tks atks ctks wr (by have := HMC.out; omega) (hrt.below HBW.out)
            rw [show tyText (Ty.mk tk tn tks) = Ty.text (Ty.mk tk tn tks) by simp [tyText, HFT.out k _ ht]] at hc
            generalize Ty.text (Ty.mk tk tn tks) = y at hc hsn
            have HC := hid hc
            have HSN := hid hsn
            clear hall h4 hrt ht hsn hc hbt2 q0 q1 q2
            go_wp2_with fail
            refine HC.out.mono ?_
            rintro e w1 ⟨rfl, hb⟩
            have HOA := hid (ownsRow.below HO.out hb)
            have HBA := hid (HBK.out.trans (hb.mono HBK.out.size))
            clear hb d0 d1 d2 z1 p0 p1
            go_wp2_with (at_builtin; refine wpList_append_s1 rfl _ _ rfl wo.heap.size _ ((fs.map Ty.text).take k) y ⟨w1.heap.size, 0, none⟩ rfl rfl (HOA.out.alloc _) (one_new _ _ _) ?c1 ?c2 ?_)
            case c1 => rw [List.length_take, List.length_map]; omega
            case c2 => have := HBA.out.size; simp; omega
            intro v2 w2 ho2 hg2
            have HO2 := hid (show OwnStr w2 wo.heap.size v2 ((fs.map Ty.text).take k ++ [y]) by simpa [OwnStr] using ho2)
            have HB2 := hid (OwnStr.next (HBA.out.alloc HBA.out.size _) (by have := HBA.out.size; simp; omega) (HOA.out.alloc _) hg2)
            clear ho2 hg2
            go_wp2_with fail
            go_roundw
            case rel => exact ⟨k + 1, v2, by omega, by go_num, rfl, by rw [HSN.out]; exact HO2.out, HB2⟩
            case measure => first | (simp [intOf]; done) | (simp [intOf]; omega)
      case neg =>
        have gj : decide ((0 : Int) < (j : Int)) = true := decide_eq_true (by omega)
        have gk : decide (0 < j) = true := decide_eq_true (by omega)
        have HN := hid (show (x ++ ⟨#[32, 124]⟩) ++ ((⟨#[32]⟩ ++ m) ++ brk (fs.map Ty.text)) = dpre n (qs.take (j + 1)) by rw [HTK.out, HX.out]; exact dpre_more n m fs _ (by intro e; have : (qs.take j).length = 0 := (by rw [e]; rfl); rw [List.length_take] at this; omega))
        have e7 : (x ++ (⟨#[32, 124]⟩ : ByteArray)).size = x.size + 2 := by rw [ByteArray.size_append, e4]
        clear hj0
        go_wp2_with fail
        clear gj gk p0 p1 z0 z1
        generalize x ++ (⟨#[32, 124]⟩ : ByteArray) = x2 at HN e7 ⊢
        go_loopw [5, 6] (fun t i wr => ∃ (k : Nat) (v0 : Value), k ≤ fs.length ∧ i = .int .i64 k ∧ v0 = t ∧ Hid (OwnStr wr wo.heap.size v0 ((fs.map Ty.text).take k)) ∧ Hid (Below wo.heap.size wo wr)) (fun _ i _ => fs.length - (intOf i).toNat)
        case atStart => exact ⟨0, .slice (some ⟨wo.heap.size, 0, none⟩) 0 0, by omega, rfl, rfl, World.ownsRow_made wo #[] 0 (Nat.le_refl _) (by unfold maxLen; omega) rfl, (Below.refl _ _).alloc (Nat.le_refl _) _⟩
        case round =>
          obtain ⟨k, v0, hk, rfl, rfl, HO, HBK⟩ := hrel
          have HBW := hid (HB.out.trans (HBK.out.mono HB.out.size))
          have z1 := (HBW.out.cell (p := ⟨b1, o1 + 1, none⟩) hb1).trans X1.out
          have p0 := (HBW.out.cell (p := ⟨b, o + j * 2, none⟩) hbl).trans P0.out
          have p1 := (HBW.out.cell (p := ⟨b, o + j * 2 + 1, none⟩) hbl).trans P1.out
          by_cases hkl : k < fs.length
          case neg =>
            have hown := HO.out
            rw [List.take_of_length_le (by rw [List.length_map]; omega)] at hown
            have hnm := fun d os => Calls.regrown_of (spec_Names (fs.map Ty.text) v0 (grow (redrawn wr d) os) (by rw [List.length_map]; omega) (by omega) HTP.out ((StrIn.of_own hown).below (below_regrown wr d os)))
            have r1 := cell_regrown z1
            have r2 := cell_regrown p0
            have HZB := hid HBW
            generalize brk (fs.map Ty.text) = z at HN hnm hs2
            have HNM := hid hnm
            have e8 : ((⟨#[32]⟩ : ByteArray) ++ m).size = 1 + m.size := by rw [ByteArray.size_append, e6]
            have e9 : (((⟨#[32]⟩ : ByteArray) ++ m) ++ z).size = 1 + m.size + z.size := by rw [ByteArray.size_append, e8]
            clear hnm hown
            go_wp2_with fail
            clear p0 p1 z1
            refine wp_region_quiet_below (by kernel_rfl) (by kernel_rfl) ?_
            repeat (go_big_quiet_step (with_reducible exact HNM.out _ _))
            refine wpQuiet_nil ?_
            intro _ hw'
            obtain ⟨⟨dq, osq⟩, hw''⟩ := hw'
            subst hw''
            have HBZ := hid (HBW.out.trans ((below_regrown wr dq osq).mono HBW.out.size))
            clear HNM r1 r2
            go_wp2_with fail
            go_roundw
            case rel => exact ⟨j + 1, _, by omega, by go_num, rfl, by rw [HN.out]; exact HDS.out (j + 1), HN, HBZ⟩
            case measure => first | (simp [intOf]; done) | (simp [intOf]; omega)
          case pos =>
            obtain ⟨_, _, e, _, _, h4⟩ := HRC.out.eTy
            simp only [Value.slice.injEq, true_and] at e
            obtain ⟨rfl, rfl⟩ := e
            obtain ⟨bt, ot, rfl, hbt, hall⟩ := h4 (by omega)
            obtain ⟨t, ht⟩ : ∃ t, fs[k]? = some t := ⟨_, List.getElem?_eq_getElem hkl⟩
            have hsn := take_map_snoc Ty.text fs k t ht
            rw [List.map_take, List.map_take] at hsn
            have hbt2 := Ty.bulk_get fs k t ht
            obtain ⟨tk, tn, tks⟩ := t
            obtain ⟨atks, ctks, q0, q1, q2, hrt⟩ := hall k tk tn tks ht
            have d0 := (HBW.out.cell (p := ⟨bt, ot + k * 3, none⟩) hbt).trans q0
            have d1 := (HBW.out.cell (p := ⟨bt, ot + k * 3 + 1, none⟩) hbt).trans q1
            have d2 := (HBW.out.cell (p := ⟨bt, ot + k * 3 + 2, none⟩) hbt).trans q2
            have hc := spec_TypeText tk tn tks atks ctks wr (by have := HMC.out; omega) (hrt.below HBW.out)
            rw [show tyText (Ty.mk tk tn tks) = Ty.text (Ty.mk tk tn tks) by simp [tyText, HFT.out k _ ht]] at hc
            generalize Ty.text (Ty.mk tk tn tks) = y at hc hsn
            have HC := hid hc
            have HSN := hid hsn
            clear hall h4 hrt ht hsn hc hbt2 q0 q1 q2
            go_wp2_with fail
            refine HC.out.mono ?_
            rintro e w1 ⟨rfl, hb⟩
            have HOA := hid (ownsRow.below HO.out hb)
            have HBA := hid (HBK.out.trans (hb.mono HBK.out.size))
            clear hb d0 d1 d2 z1 p0 p1
            go_wp2_with (at_builtin; refine wpList_append_s1 rfl _ _ rfl wo.heap.size _ ((fs.map Ty.text).take k) y ⟨w1.heap.size, 0, none⟩ rfl rfl (HOA.out.alloc _) (one_new _ _ _) ?c1 ?c2 ?_)
            case c1 => rw [List.length_take, List.length_map]; omega
            case c2 => have := HBA.out.size; simp; omega
            intro v2 w2 ho2 hg2
            have HO2 := hid (show OwnStr w2 wo.heap.size v2 ((fs.map Ty.text).take k ++ [y]) by simpa [OwnStr] using ho2)
            have HB2 := hid (OwnStr.next (HBA.out.alloc HBA.out.size _) (by have := HBA.out.size; simp; omega) (HOA.out.alloc _) hg2)
            clear ho2 hg2
            go_wp2_with fail
            go_roundw
            case rel => exact ⟨k + 1, v2, by omega, by go_num, rfl, by rw [HSN.out]; exact HO2.out, HB2⟩
            case measure => first | (simp [intOf]; done) | (simp [intOf]; omega)
end Go.Proofs.YtikhofcjkcbpbaaGreatDoor
/- was: PpT -/
namespace Go.Proofs.YtikhofcjkcbpbaaGreatDoor
open Go.ChangeShapes Go.WideShapes Go.ChangeAt Go.RowKit Go.BigFrame
open Go.Sort (grow)
set_option linter.unusedVariables false

theorem ret_lim {y : ByteArray} {w w' : World} (h : 20000 < y.size) (hb : Below w.heap.size w w') : (Ending.returned (.string ⟨#[]⟩) = .returned (.string (lim y))) ∧ Below w.heap.size w w' := by
  rw [show lim y = ⟨#[]⟩ from if_pos h]; exact ⟨rfl, hb⟩
theorem ret_nolim {y : ByteArray} {w w' : World} (h : ¬ 20000 < y.size) (hb : Below w.heap.size w w') : (Ending.returned (.string y) = .returned (.string (lim y))) ∧ Below w.heap.size w w' := by
  rw [show lim y = y from if_neg h]; exact ⟨rfl, hb⟩
theorem prPg_yes {ds : List Dat} {fs : List Df} (h : progOk ds fs = true) : prPg ds fs = lim (pgTxt ds fs) := if_pos h
theorem prPg_no {ds : List Dat} {fs : List Df} (h : progOk ds fs = false) : prPg ds fs = ⟨#[]⟩ := by rw [prPg, h]; rfl
set_option maxRecDepth 100000 in
set_option maxHeartbeats 8000000 in
theorem spec_PrintProgram (ds : List Dat) (fs : List Df) (ads : Option Addr) (cds : Nat) (afs : Option Addr) (cfs : Nat) (w : World) (hM : Pg.bulk (Pg.mk ds fs) ≤ 1048576) (hr : RdS w (Pg.d (Pg.mk ds fs)) [.slice ads ds.length cds, .slice afs fs.length cfs]) :
    Calls Tryz.prog 11 #[.agg #[.slice ads ds.length cds, .slice afs fs.length cfs]] w fun e w' => e = .returned (.string (prPg ds fs)) ∧ Below w.heap.size w w' := by
  have hbp : Pg.bulk (Pg.mk ds fs) = Dat.bulks ds + Df.bulks fs := rfl
  have HX0 := hid ((Boxes.nil w).alloc #[.slice ads ds.length cds, .slice afs fs.length cfs] 49 (0, 0))
  have hB := (Below.refl w.heap.size w).alloc (Nat.le_refl _) (.cells #[.slice ads ds.length cds, .slice afs fs.length cfs] 49)
  have HB0 := hid hB
  have hv := spec_ValidProgram ds fs ads cds afs cfs (w.alloc (.cells #[.slice ads ds.length cds, .slice afs fs.length cfs] 49)) hM (hr.below hB)
  by_cases hok : progOk ds fs = true
  case neg =>
    have hf := (Bool.not_eq_true _).mp hok
    rw [hf] at hv
    rw [prPg_no hf]
    have HV := hid hv
    clear hv hf hok hr hM hB hbp
    go_enter Tryz.func11, Tryz.ntmps11
    go_wp2_with fail
    refine HV.out.mono ?_
    rintro e w1 ⟨rfl, hb⟩
    have HB1 := hid (HB0.out.trans (hb.mono HB0.out.size))
    clear hb
    go_wp2_with fail
    go_ret
    exact ⟨rfl, HB1.out⟩
  case pos =>
    rw [hok] at hv
    rw [prPg_yes hok]
    obtain ⟨hd4, hf8, hdf, hff⟩ := progOk_fine hok
    have HV := hid hv
    have HDF := hid hdf
    have HFF := hid hff
    have HR := hid hr
    have HMD := hid (show Dat.bulks ds ≤ 1048576 by omega)
    have HMF := hid (show Df.bulks fs ≤ 1048576 by omega)
    clear hv hok hr hM hB hbp hdf hff
    go_enter Tryz.func11, Tryz.ntmps11
    go_wp2_with fail
    refine HV.out.mono ?_
    rintro e w1 ⟨rfl, hb⟩
    have HB1 := hid (HB0.out.trans (hb.mono HB0.out.size))
    have HX1 := hid (HX0.out.below hb)
    clear hb HX0
    have hr1 := HR.out.below HB1.out
    have hdl := hr1.fPg.1
    have hfl := hr1.fPg.2
    obtain ⟨_, _, e, _, _, h4⟩ := hdl.eDat
    simp only [Value.slice.injEq, true_and] at e
    obtain ⟨rfl, rfl⟩ := e
    have HD4 := hid h4
    obtain ⟨_, _, e, _, _, h4⟩ := hfl.eDf
    simp only [Value.slice.injEq, true_and] at e
    obtain ⟨rfl, rfl⟩ := e
    have HF4 := hid h4
    have b0 := HX1.out.at 0 0 rfl rfl
    have b1 := HX1.out.at 0 1 rfl rfl
    have hbx := World.block_lt_of_cell? _ _ b0
    have HC0 := hid b0
    have HC1 := hid b1
    clear h4 hr1 hdl hfl HR HV b0 b1 HX1
    go_wp2_with fail
    go_loopw [3, 4] (fun t i wr => ∃ (j : Nat) (x : ByteArray), j ≤ ds.length ∧ i = .int .i64 j ∧ t = .string x ∧ x.size ≤ j * 123000000 ∧ Hid (x = pgTo ds j fs 0) ∧ Hid (Below w1.heap.size w1 wr)) (fun _ i _ => ds.length - (intOf i).toNat)
    case atStart => exact ⟨0, ⟨#[]⟩, by omega, rfl, rfl, by decide, hid (pgTo_zero ds fs).symm, Below.refl _ _⟩
    case round =>
      obtain ⟨j, x, hj, rfl, rfl, hx, HX, HB⟩ := hrel
      rename World => wo
      have z0 := (HB.out.cell (p := ⟨w.heap.size, 0, none⟩) hbx).trans HC0.out
      by_cases hlt : j < ds.length
      case pos =>
        obtain ⟨b, o, rfl, hbl, hall⟩ := HD4.out (by omega)
        obtain ⟨d, hd⟩ : ∃ d, ds[j]? = some d := ⟨_, List.getElem?_eq_getElem hlt⟩
        have hsn := pgTo_data ds j fs d hd
        have hbg := Dat.bulk_get ds j d hd
        have hfd := HDF.out j d hd
        obtain ⟨n, qs⟩ := d
        have hMd : Dat.bulk (Dat.mk n qs) ≤ 1048576 := by have := HMD.out; omega
        have hds := dat_small hfd hMd
        obtain ⟨aqs, cqs, q0, q1, hrk⟩ := hall j n qs hd
        have HC := hid (spec_l04Data n qs aqs cqs b (o + j * 2) wo hfd hMd ((HB.out.cell (p := ⟨b, o + j * 2, none⟩) hbl).trans q0) ((HB.out.cell (p := ⟨b, o + j * 2 + 1, none⟩) hbl).trans q1) (hrk.below HB.out))
        generalize datTxt (Dat.mk n qs) = y at HC hsn hds
        have HSN := hid hsn
        have hes : (x ++ y).size ≤ (j + 1) * 123000000 := by rw [ByteArray.size_append]; omega
        have HES := hid hes
        have hxs : x.size ≤ 1000000000 := by omega
        clear hall hd hsn hbg hfd hMd hrk q0 q1 hes hx
        go_wp2_with fail
        refine HC.out.mono ?_
        rintro e w2 ⟨rfl, hb⟩
        have HB2 := hid (HB.out.trans (hb.mono HB.out.size))
        clear hb z0
        go_wp2_with fail
        go_roundw
        case rel => exact ⟨j + 1, _, by omega, by go_num, rfl, HES.out, by rw [HSN.out, ← HX.out]; rfl, HB2⟩
        case measure => first | (simp [intOf]; done) | (simp [intOf]; omega)
      case neg =>
        have hje : j = ds.length := by omega
        have HX2 := hid (show x = pgTo ds ds.length fs 0 by rw [HX.out, hje])
        have hx2 : x.size ≤ 492000000 := by omega
        clear HX hx hje
        go_wp2_with fail
        clear z0
        go_loopw [3, 5] (fun t i wr => ∃ (j : Nat) (x : ByteArray), j ≤ fs.length ∧ i = .int .i64 j ∧ t = .string x ∧ x.size ≤ 492000000 + j * 123000000 ∧ Hid (x = pgTo ds ds.length fs j) ∧ Hid (Below w1.heap.size w1 wr)) (fun _ i _ => fs.length - (intOf i).toNat)
        case atStart => exact ⟨0, x, by omega, rfl, rfl, by omega, HX2, HB⟩
        case round =>
          clear HX2 hx2 HB hlt hj
          rename Nat => j0
          obtain ⟨j, x, hj, rfl, rfl, hx, HX, HB⟩ := hrel
          have z1 := (HB.out.cell (p := ⟨w.heap.size, 1, none⟩) hbx).trans HC1.out
          have hxs : x.size ≤ 1476000000 := by omega
          by_cases hlt : j < fs.length
          case neg =>
            have hxe : x = pgTxt ds fs := by rw [HX.out, show j = fs.length by omega, pgTo_all]
            have HE := hid hxe
            have HBZ := hid (HB1.out.trans (HB.out.mono HB1.out.size))
            by_cases hlim : 20000 < x.size
            case pos =>
              have g1 : decide ((20000 : Int) < (x.size : Int)) = true := decide_eq_true (by omega)
              have HR := hid (fun W (hb : Below w.heap.size w W) => ret_lim (y := pgTxt ds fs) (w := w) (w' := W) (by rw [← hxe]; exact hlim) hb)
              clear hxe hx
              go_wp2_with fail
              go_ret
              exact HR.out _ HBZ.out
            case neg =>
              have g1 : decide ((20000 : Int) < (x.size : Int)) = false := decide_eq_false (by omega)
              have HR := hid (fun W (hb : Below w.heap.size w W) => (by rw [← hxe]; exact ret_nolim hlim hb : (Ending.returned (.string x) = .returned (.string (lim (pgTxt ds fs)))) ∧ Below w.heap.size w W))
              clear hxe hx
              go_wp2_with fail
              go_ret
              exact HR.out _ HBZ.out
          case pos =>
            obtain ⟨b, o, rfl, hbl, hall⟩ := HF4.out (by omega)
            obtain ⟨t, ht⟩ : ∃ t, fs[j]? = some t := ⟨_, List.getElem?_eq_getElem hlt⟩
            obtain ⟨n3, ⟨tk3, tn3, tks3⟩, ⟨bk3, bu3, bn3, ⟨btk3, btn3, btks3⟩, bns3, bks3⟩⟩ := t
            obtain ⟨atks3, ctks3, abtks3, cbtks3, abns3, cbns3, abks3, cbks3, q0, q1, q2, q3, q4, q5, q6, q7, q8, q9, q10, q11, hrk⟩ := hall j n3 tk3 tn3 tks3 bk3 bu3 bn3 btk3 btn3 btks3 bns3 bks3 ht
            clear hall
            have hbg := Df.bulk_get fs j _ ht
            have hbk : Df.bulk (Df.mk n3 (Ty.mk tk3 tn3 tks3) (Tm.mk bk3 bu3 bn3 (Ty.mk btk3 btn3 btks3) bns3 bks3)) = n3.size + Ty.bulk (Ty.mk tk3 tn3 tks3) + Tm.bulk (Tm.mk bk3 bu3 bn3 (Ty.mk btk3 btn3 btks3) bns3 bks3) := rfl
            have hMn : n3.size ≤ 1048576 := by have := HMF.out; omega
            have hMt : Ty.bulk (Ty.mk tk3 tn3 tks3) ≤ 1048576 := by have := HMF.out; omega
            have hMb : Tm.bulk (Tm.mk bk3 bu3 bn3 (Ty.mk btk3 btn3 btks3) bns3 bks3) ≤ 1048576 := by have := HMF.out; omega
            have hfn := HFF.out j _ ht
            obtain ⟨hgb, hcb⟩ := Tm.ok_goodR hfn.2
            have hts := Ty.text_small hMt
            have hbs := Tm.text_small hgb hMb
            have hsn := pgTo_def ds fs j _ ht
            have hds := df_small hfn (by have := HMF.out; omega)
            have z1r := cell_regrown z1
            have q0r := cell_regrown ((HB.out.cell (p := ⟨b, o + j * 12, none⟩) hbl).trans q0)
            have q1r := cell_regrown ((HB.out.cell (p := ⟨b, o + j * 12 + 1, none⟩) hbl).trans q1)
            have q2r := cell_regrown ((HB.out.cell (p := ⟨b, o + j * 12 + 2, none⟩) hbl).trans q2)
            have q3r := cell_regrown ((HB.out.cell (p := ⟨b, o + j * 12 + 3, none⟩) hbl).trans q3)
            have q4r := cell_regrown ((HB.out.cell (p := ⟨b, o + j * 12 + 4, none⟩) hbl).trans q4)
            have q5r := cell_regrown ((HB.out.cell (p := ⟨b, o + j * 12 + 5, none⟩) hbl).trans q5)
            have q6r := cell_regrown ((HB.out.cell (p := ⟨b, o + j * 12 + 6, none⟩) hbl).trans q6)
            have q7r := cell_regrown ((HB.out.cell (p := ⟨b, o + j * 12 + 7, none⟩) hbl).trans q7)
            have q8r := cell_regrown ((HB.out.cell (p := ⟨b, o + j * 12 + 8, none⟩) hbl).trans q8)
            have q9r := cell_regrown ((HB.out.cell (p := ⟨b, o + j * 12 + 9, none⟩) hbl).trans q9)
            have q10r := cell_regrown ((HB.out.cell (p := ⟨b, o + j * 12 + 10, none⟩) hbl).trans q10)
            have q11r := cell_regrown ((HB.out.cell (p := ⟨b, o + j * 12 + 11, none⟩) hbl).trans q11)
            have hct := fun d os => Calls.regrown_of (spec_TypeText tk3 tn3 tks3 atks3 ctks3 (grow (redrawn wr d) os) hMt (((RdS.subDf_t hrk).below HB.out).below (below_regrown wr d os)))
            rw [show tyText (Ty.mk tk3 tn3 tks3) = Ty.text (Ty.mk tk3 tn3 tks3) by simp [tyText, hfn.1]] at hct
            have hcb := fun d os => Calls.regrown_of (print_of (Tm.bulk (Tm.mk bk3 bu3 bn3 (Ty.mk btk3 btn3 btks3) bns3 bks3) + 1) (spec_bare _) bk3 bu3 bn3 btk3 btn3 btks3 bns3 bks3 abtks3 cbtks3 abns3 cbns3 abks3 cbks3 b (o + j * 12 + 4) 0 (grow (redrawn wr d) os) (by omega) hMb hgb hcb (q4r d os) (q5r d os) (q6r d os) (q7r d os) (q8r d os) (q9r d os) (q10r d os) (q11r d os) (((RdS.subDf_b hrk).below HB.out).below (below_regrown wr d os)))
            rw [Tm.at_0] at hcb
            have hdt : dfTxt (Df.mk n3 (Ty.mk tk3 tn3 tks3) (Tm.mk bk3 bu3 bn3 (Ty.mk btk3 btn3 btks3) bns3 bks3)) = (((((⟨#[100, 101, 102, 32]⟩ ++ n3) ++ ⟨#[32, 58, 32]⟩) ++ Ty.text (Ty.mk tk3 tn3 tks3)) ++ ⟨#[32, 61, 32]⟩) ++ Tm.text (Tm.mk bk3 bu3 bn3 (Ty.mk btk3 btn3 btks3) bns3 bks3)) ++ ⟨#[10]⟩ := rfl
            rw [hdt] at hsn hds
            generalize Ty.text (Ty.mk tk3 tn3 tks3) = y1 at hct hts hsn hds
            generalize Tm.text (Tm.mk bk3 bu3 bn3 (Ty.mk btk3 btn3 btks3) bns3 bks3) = y2 at hcb hbs hsn hds
            have HT := hid hct
            have HT2 := hid hcb
            have HSN := hid (show x ++ ((((((⟨#[100, 101, 102, 32]⟩ ++ n3) ++ ⟨#[32, 58, 32]⟩) ++ y1) ++ ⟨#[32, 61, 32]⟩) ++ y2) ++ ⟨#[10]⟩) = pgTo ds ds.length fs (j + 1) by rw [hsn, HX.out])
            have f1 : (⟨#[100, 101, 102, 32]⟩ : ByteArray).size = 4 := rfl
            have f2 : (⟨#[32, 58, 32]⟩ : ByteArray).size = 3 := rfl
            have f3 : (⟨#[32, 61, 32]⟩ : ByteArray).size = 3 := rfl
            have f4 : (⟨#[10]⟩ : ByteArray).size = 1 := rfl
            have c1 : ((⟨#[100, 101, 102, 32]⟩ : ByteArray) ++ n3).size = 4 + n3.size := by rw [ByteArray.size_append, f1]
            have c2 : (((⟨#[100, 101, 102, 32]⟩ : ByteArray) ++ n3) ++ (⟨#[32, 58, 32]⟩ : ByteArray)).size = 4 + n3.size + 3 := by rw [ByteArray.size_append, c1, f2]
            have c3 : ((((⟨#[100, 101, 102, 32]⟩ : ByteArray) ++ n3) ++ (⟨#[32, 58, 32]⟩ : ByteArray)) ++ y1).size = 4 + n3.size + 3 + y1.size := by rw [ByteArray.size_append, c2]
            have c4 : (((((⟨#[100, 101, 102, 32]⟩ : ByteArray) ++ n3) ++ (⟨#[32, 58, 32]⟩ : ByteArray)) ++ y1) ++ (⟨#[32, 61, 32]⟩ : ByteArray)).size = 4 + n3.size + 3 + y1.size + 3 := by rw [ByteArray.size_append, c3, f3]
            have c5 : ((((((⟨#[100, 101, 102, 32]⟩ : ByteArray) ++ n3) ++ (⟨#[32, 58, 32]⟩ : ByteArray)) ++ y1) ++ (⟨#[32, 61, 32]⟩ : ByteArray)) ++ y2).size = 4 + n3.size + 3 + y1.size + 3 + y2.size := by rw [ByteArray.size_append, c4]
            have c6 : (((((((⟨#[100, 101, 102, 32]⟩ : ByteArray) ++ n3) ++ (⟨#[32, 58, 32]⟩ : ByteArray)) ++ y1) ++ (⟨#[32, 61, 32]⟩ : ByteArray)) ++ y2) ++ (⟨#[10]⟩ : ByteArray)).size = 4 + n3.size + 3 + y1.size + 3 + y2.size + 1 := by rw [ByteArray.size_append, c5, f4]
            have HES := hid (show (x ++ ((((((⟨#[100, 101, 102, 32]⟩ ++ n3) ++ ⟨#[32, 58, 32]⟩) ++ y1) ++ ⟨#[32, 61, 32]⟩) ++ y2) ++ ⟨#[10]⟩)).size ≤ 492000000 + (j + 1) * 123000000 by rw [ByteArray.size_append]; omega)
            clear ht hrk hbg hbk hMt hMb hfn hgb hsn hds hdt hct hcb hx q0 q1 q2 q3 q4 q5 q6 q7 q8 q9 q10 q11 q4r q5r q6r q7r q8r q9r q10r q11r
            go_wp2_with fail
            clear z1
            refine wp_region_quiet_below (by kernel_rfl) (by kernel_rfl) ?_
            repeat (go_big_quiet_step (first | exact HT.out _ _ | exact HT2.out _ _))
            refine wpQuiet_nil ?_
            intro _ hw'
            obtain ⟨⟨dq, osq⟩, hw''⟩ := hw'
            subst hw''
            have HB2 := hid (HB.out.trans ((below_regrown wr dq osq).mono HB.out.size))
            clear HT HT2 z1r q0r q1r q2r q3r
            go_wp2_with fail
            go_roundw
            case rel => exact ⟨j + 1, _, by omega, by go_num, rfl, HES.out, HSN, HB2⟩
            case measure => first | (simp [intOf]; done) | (simp [intOf]; omega)
end Go.Proofs.YtikhofcjkcbpbaaGreatDoor
/- was: PpI -/
namespace Go.Proofs.YtikhofcjkcbpbaaGreatDoor
open Go.ChangeShapes Go.WideShapes Go.ChangeAt Go.RowKit Go.BigFrame
open Go.Sort (grow)
set_option linter.unusedVariables false

/-- A string appended to a list of the call's own, at a step of a region that draws its order. -/
theorem step_append_s1 {w : World} {ops : Array Oper} {o : Oper} {a : Act} {K : Act → World → Prop} {Q : Exit → Act → World → Prop} {E : Prop} (hgd : o.guard = none) (s x : Operand)
    (ho : o.op = .call { callee := .builtin .append, args := #[s, x], argTypes := #[25, 25] })
    (base : Nat) (v : Value) (zs : List ByteArray) (n : ByteArray) (ad : Addr) (hs : a.eval s = v) (hx : a.eval x = .slice (some ad) 1 1) (hown : OwnStr w base v zs) (hc : ∀ j u, [Value.string n][j]? = some u → w.cell? (ad.add j) = some u)
    (h63 : zs.length + 1 ≤ 4194304) (hbase : base ≤ w.heap.size)
    (hK : ∀ v' w', OwnStr w' base v' (zs ++ [n]) → w.grownBy w' v.ownBlock → K (a.put o.dst v') w') : if Region.wanted o (yielded ops a.tmps) = true then Oper.wp Tryz.prog o a w K Q else E := by
  have hw : Region.wanted o (yielded ops a.tmps) = true := by simp [Region.wanted, hgd]
  rw [if_pos hw]
  obtain ⟨i0, hi, hz0, hz1, hz2⟩ := info_partsS infoStr
  exact wp_append_own w s x _ ho base 9 i0 _ 1 16 Tryz.underlying25 hi hz0 hz1 hz2 rfl (by decide) v _ _ hs hown ad 1 1 [.string n] hx rfl hc (fun u hu => by simp at hu; subst hu; rfl) (by simp only [maxLen]; omega) (by omega) hbase (fun v' w' h5 h6 _ => hK v' w' (by simpa [OwnStr] using h5) h6)
theorem alloc_le (w : World) (o : Obj) : w.heap.size ≤ (w.alloc o).heap.size := by simp
theorem alloc_lt (w : World) (o : Obj) : w.heap.size < (w.alloc o).heap.size := by simp
theorem heap_liftP {w w' : World} {b : Nat} {o : Obj} (h : w.heap[b]? = some o) (hb : Below w.heap.size w w') : w'.heap[b]? = some o := (hb.block _ (Array.getElem?_eq_some_iff.1 h).1).trans h
set_option maxRecDepth 100000 in
set_option maxHeartbeats 16000000 in
theorem impl_PrintProgram (ds : List Dat) (fs : List Df) (ads : Option Addr) (cds : Nat) (afs : Option Addr) (cfs : Nat) (w : World) (hM : Pg.bulk (Pg.mk ds fs) ≤ 1048576) (hr : RdS w (Pg.d (Pg.mk ds fs)) [.slice ads ds.length cds, .slice afs fs.length cfs]) (hpw : Pow w) :
    Calls Tryz.prog 13 #[.agg #[.slice ads ds.length cds, .slice afs fs.length cfs]] w fun e w' => e = .returned (.string (prPg ds fs)) ∧ Below w.heap.size w w' := by
  have hbp : Pg.bulk (Pg.mk ds fs) = Dat.bulks ds + Df.bulks fs := rfl
  have HX0 := hid ((Boxes.nil w).alloc #[.slice ads ds.length cds, .slice afs fs.length cfs] 49 (0, 0))
  have hB := (Below.refl w.heap.size w).alloc (Nat.le_refl _) (.cells #[.slice ads ds.length cds, .slice afs fs.length cfs] 49)
  have HB0 := hid hB
  have hv := impl_ValidProgram ds fs ads cds afs cfs (w.alloc (.cells #[.slice ads ds.length cds, .slice afs fs.length cfs] 49)) hM (hr.below hB)
  by_cases hok : progOk ds fs = true
  case neg =>
    have hf := (Bool.not_eq_true _).mp hok
    rw [hf] at hv
    rw [prPg_no hf]
    have HV := hid hv
    clear hv hf hok hr hM hB hbp hpw
    go_enter Tryz.func13, Tryz.ntmps13
    go_wp2_with fail
    refine HV.out.mono ?_
    rintro e w1 ⟨rfl, hb⟩
    have HB1 := hid (HB0.out.trans (hb.mono HB0.out.size))
    clear hb
    go_wp2_with fail
    go_ret
    exact ⟨rfl, HB1.out⟩
  case pos =>
    rw [hok] at hv
    rw [prPg_yes hok]
    obtain ⟨hd4, hf8, hdf, hff⟩ := progOk_fine hok
    have HV := hid hv
    have HDF := hid hdf
    have HFF := hid hff
    have HR := hid hr
    have HPW := hid hpw
    have HMD := hid (show Dat.bulks ds ≤ 1048576 by omega)
    have HMF := hid (show Df.bulks fs ≤ 1048576 by omega)
    clear hv hok hr hM hB hbp hdf hff hpw
    go_enter Tryz.func13, Tryz.ntmps13
    go_wp2_with fail
    refine HV.out.mono ?_
    rintro e w1 ⟨rfl, hb⟩
    have HB1 := hid (HB0.out.trans (hb.mono HB0.out.size))
    have HX1 := hid (HX0.out.below hb)
    clear hb HX0
    have HPW1 := hid (HPW.out.below HB1.out)
    have hr1 := HR.out.below HB1.out
    have hdl := hr1.fPg.1
    have hfl := hr1.fPg.2
    obtain ⟨_, _, e, _, _, h4⟩ := hdl.eDat
    simp only [Value.slice.injEq, true_and] at e
    obtain ⟨rfl, rfl⟩ := e
    have HD4 := hid h4
    obtain ⟨_, _, e, _, _, h4⟩ := hfl.eDf
    simp only [Value.slice.injEq, true_and] at e
    obtain ⟨rfl, rfl⟩ := e
    have HF4 := hid h4
    have b0 := HX1.out.at 0 0 rfl rfl
    have b1 := HX1.out.at 0 1 rfl rfl
    have hbx := World.block_lt_of_cell? _ _ b0
    have HC0 := hid b0
    have HC1 := hid b1
    have HBLD0 := hid (Bld.new w1 w1.heap.size (Nat.le_refl _))
    have HBB := hid ((Below.refl w1.heap.size w1).alloc (Nat.le_refl _) (.cells #[.pointer none, .slice none 0 0] 83))
    clear h4 hr1 hdl hfl HR HV b1 HX1 HPW
    go_wp2_with fail
    clear b0
    go_loopw [20] (fun i wr => ∃ (j : Nat) (x : ByteArray), j ≤ ds.length ∧ i = .int .i64 j ∧ x.size ≤ j * 123000000 ∧ Hid (x = pgTo ds j fs 0) ∧ Hid (Bld wr w1.heap.size w1.heap.size x) ∧ Hid (Below w1.heap.size w1 wr)) (fun i _ => ds.length - (intOf i).toNat)
    case atStart => exact ⟨0, ⟨#[]⟩, by omega, rfl, by decide, hid (pgTo_zero ds fs).symm, HBLD0, HBB⟩
    case round =>
      obtain ⟨j, x, hj, rfl, hx, HX, HBL, HB⟩ := hrel
      rename World => wo
      by_cases hlt : j < ds.length
      case pos =>
        obtain ⟨b, o, rfl, hbl, hall⟩ := HD4.out (by omega)
        obtain ⟨d, hd⟩ : ∃ d, ds[j]? = some d := ⟨_, List.getElem?_eq_getElem hlt⟩
        have HSN := hid (pgTo_data ds j fs d hd)
        have hbg := Dat.bulk_get ds j d hd
        have hfd := HDF.out j d hd
        obtain ⟨n, qs⟩ := d
        have hbk : Dat.bulk (Dat.mk n qs) = n.size + Con.bulks qs := rfl
        have hMq : Con.bulks qs ≤ 1048576 := by have := HMD.out; omega
        have hn : n.size ≤ 1048576 := by have := HMD.out; omega
        obtain ⟨aqs, cqs, q0, q1, hrk⟩ := hall j n qs hd
        obtain ⟨hq1, hq4, hfc⟩ := hfd
        have d0 := (HB.out.cell (p := ⟨b, o + j * 2, none⟩) hbl).trans q0
        have d1 := (HB.out.cell (p := ⟨b, o + j * 2 + 1, none⟩) hbl).trans q1
        obtain ⟨_, _, e, _, _, h4⟩ := hrk.fDat.2.eCon
        simp only [Value.slice.injEq, true_and] at e
        obtain ⟨rfl, rfl⟩ := e
        obtain ⟨b2, o2, rfl, hbl2, hall2⟩ := h4 (by omega)
        have HQA := hid hall2
        have HFC := hid hfc
        have HMQ := hid hMq
        have hjs := join_cons_small hfc hq4 hMq qs.length
        rw [List.take_length] at hjs
        have hzs := cons_szs qs hfc hMq
        have HDW := hid ((Below.refl wo.heap.size wo).alloc (Nat.le_refl _) (.cells #[.string n, .slice (some ⟨b2, o2, none⟩) qs.length cqs] 74))
        have gd0 := heap_cell (heap_alloc_new wo (.cells #[.string n, .slice (some ⟨b2, o2, none⟩) qs.length cqs] 74)) (j := 0) rfl
        have gd1 := heap_cell (heap_alloc_new wo (.cells #[.string n, .slice (some ⟨b2, o2, none⟩) qs.length cqs] 74)) (j := 1) rfl
        have HBL1 := hid (HBL.out.below HDW.out)
        have HBD := hid (HB.out.trans (HDW.out.mono HB.out.size))
        clear hall hall2 h4 hd hrk q0 q1 hbg hbk hMq hfc hq1
        go_wp2_with fail
        clear d0 d1
        go_loopw [6, 27] (fun t i wr => ∃ (k : Nat) (v0 : Value), k ≤ qs.length ∧ i = .int .i64 k ∧ v0 = t ∧ Hid (OwnStr wr (wo.alloc (.cells #[.string n, .slice (some ⟨b2, o2, none⟩) qs.length cqs] 74)).heap.size v0 ((qs.map conTxt).take k)) ∧ Hid (Below (wo.alloc (.cells #[.string n, .slice (some ⟨b2, o2, none⟩) qs.length cqs] 74)).heap.size (wo.alloc (.cells #[.string n, .slice (some ⟨b2, o2, none⟩) qs.length cqs] 74)) wr)) (fun _ i _ => qs.length - (intOf i).toNat)
        case atStart => exact ⟨0, .slice none 0 0, by omega, rfl, rfl, World.ownsRow_nil _ _ _ _, Below.refl _ _⟩
        case round =>
          obtain ⟨k, v0, hk, rfl, rfl, HO, HB2⟩ := hrel
          rename World => wp
          have HBW2 := hid (HBD.out.trans (HB2.out.mono HBD.out.size))
          by_cases hlk : k < qs.length
          case pos =>
            obtain ⟨c, hc⟩ : ∃ c, qs[k]? = some c := ⟨_, List.getElem?_eq_getElem hlk⟩
            obtain ⟨m, gs⟩ := c
            obtain ⟨agf, cgf, p0, p1, hrc⟩ := HQA.out k m gs hc
            have hfn := HFC.out k _ hc
            have hmc := con_get hc HMQ.out
            obtain ⟨hs1, hs2, hs3, hs4⟩ := con_small hfn.1 hmc
            have d0 := (HBW2.out.cell (p := ⟨b2, o2 + k * 2, none⟩) hbl2).trans p0
            have d1 := (HBW2.out.cell (p := ⟨b2, o2 + k * 2 + 1, none⟩) hbl2).trans p1
            have HTK := hid (con_take qs k _ hc)
            have HFT := hid hfn.2
            have hg3 := hfn.1
            have HMC := hid (show Ty.bulks gs ≤ 1048576 by have : Con.bulk (Con.mk m gs) = m.size + Ty.bulks gs := rfl; omega)
            obtain ⟨_, _, e, _, _, h4⟩ := hrc.fCon.2.eTy
            simp only [Value.slice.injEq, true_and] at e
            obtain ⟨rfl, rfl⟩ := e
            have H4T := hid h4
            have HCW := hid ((Below.refl wp.heap.size wp).alloc (Nat.le_refl _) (.cells #[.string m, .slice agf gs.length cgf] 85))
            have gc0 := heap_cell (heap_alloc_new wp (.cells #[.string m, .slice agf gs.length cgf] 85)) (j := 0) rfl
            have gc1 := heap_cell (heap_alloc_new wp (.cells #[.string m, .slice agf gs.length cgf] 85)) (j := 1) rfl
            have HOC := hid (ownsRow.below HO.out HCW.out)
            have HBC := hid (HB2.out.trans (HCW.out.mono HB2.out.size))
            clear hc hrc hfn hmc p0 p1 h4
            go_wp2_with fail
            clear d0 d1 gc1
            go_loopw [9, 34] (fun t i wr => ∃ (l : Nat) (v1 : Value), l ≤ gs.length ∧ i = .int .i64 l ∧ v1 = t ∧ Hid (OwnStr wr (wp.alloc (.cells #[.string m, .slice agf gs.length cgf] 85)).heap.size v1 ((gs.map Ty.text).take l)) ∧ Hid (Below (wp.alloc (.cells #[.string m, .slice agf gs.length cgf] 85)).heap.size (wp.alloc (.cells #[.string m, .slice agf gs.length cgf] 85)) wr)) (fun _ i _ => gs.length - (intOf i).toNat)
            case atStart => exact ⟨0, .slice none 0 0, by omega, rfl, rfl, World.ownsRow_nil _ _ _ _, Below.refl _ _⟩
            case round =>
              obtain ⟨l, v1, hl, rfl, rfl, HO3, HB3⟩ := hrel
              rename World => wq
              have HBW3 := hid (HBW2.out.trans ((HCW.out.trans (HB3.out.mono HCW.out.size)).mono HBW2.out.size))
              by_cases hlg : l < gs.length
              case pos =>
                obtain ⟨bt, ot, rfl, hbt, hall⟩ := H4T.out (by omega)
                obtain ⟨t, ht⟩ : ∃ t, gs[l]? = some t := ⟨_, List.getElem?_eq_getElem hlg⟩
                have hsn := take_map_snoc Ty.text gs l t ht
                rw [List.map_take, List.map_take] at hsn
                have hbt2 := Ty.bulk_get gs l t ht
                have hgt := Ty.ok_goodP (HFT.out l t ht)
                obtain ⟨tk, tn, tks⟩ := t
                obtain ⟨atks, ctks, q0, q1, q2, hrt⟩ := hall l tk tn tks ht
                have d0 := (HBW3.out.cell (p := ⟨bt, ot + l * 3, none⟩) hbt).trans q0
                have d1 := (HBW3.out.cell (p := ⟨bt, ot + l * 3 + 1, none⟩) hbt).trans q1
                have d2 := (HBW3.out.cell (p := ⟨bt, ot + l * 3 + 2, none⟩) hbt).trans q2
                have htw : Below wq.heap.size wq (wq.alloc (.cells #[.int .i64 tk, .string tn, .slice atks tks.length ctks] 33)) := (Below.refl wq.heap.size wq).alloc (Nat.le_refl _) (.cells #[.int .i64 tk, .string tn, .slice atks tks.length ctks] 33)
                have hc := impl_text_all (Ty.bulk (Ty.mk tk tn tks) + 1) tk tn tks atks ctks (wq.alloc (.cells #[.int .i64 tk, .string tn, .slice atks tks.length ctks] 33)) (by omega) (by have := HMC.out; omega) hgt (hrt.below (HBW3.out.trans (htw.mono HBW3.out.size)))
                generalize Ty.text (Ty.mk tk tn tks) = y at hc hsn
                have HC := hid hc
                have HSN := hid hsn
                have HOT := hid (ownsRow.below HO3.out htw)
                have HBT := hid (HB3.out.trans (htw.mono HB3.out.size))
                have gt0 := heap_cell (heap_alloc_new wq (.cells #[.int .i64 tk, .string tn, .slice atks tks.length ctks] 33)) (j := 0) rfl
                have gt1 := heap_cell (heap_alloc_new wq (.cells #[.int .i64 tk, .string tn, .slice atks tks.length ctks] 33)) (j := 1) rfl
                have gt2 := heap_cell (heap_alloc_new wq (.cells #[.int .i64 tk, .string tn, .slice atks tks.length ctks] 33)) (j := 2) rfl
                clear hall hrt ht hsn hbt2 hgt hc htw q0 q1 q2
                go_wp2_with fail
                refine HC.out.mono ?_
                rintro e w5 ⟨rfl, hb⟩
                have HOA := hid (ownsRow.below HOT.out hb)
                have HBA := hid (HBT.out.trans (hb.mono HBT.out.size))
                clear hb d0 d1 d2 gt0 gt1 gt2
                go_wp2_with (at_builtin; refine wpList_append_s1 rfl _ _ rfl _ _ ((gs.map Ty.text).take l) y ⟨w5.heap.size, 0, none⟩ rfl rfl (HOA.out.alloc _) (one_new _ _ _) ?c1 ?c2 ?_)
                case c1 => rw [List.length_take, List.length_map]; omega
                case c2 => exact Nat.le_trans HBA.out.size (alloc_le w5 _)
                intro v2 w2 ho2 hg2
                have HO2 := hid (show OwnStr w2 (wp.alloc (.cells #[.string m, .slice (some ⟨bt, ot, none⟩) gs.length cgf] 85)).heap.size v2 ((gs.map Ty.text).take l ++ [y]) by simpa [OwnStr] using ho2)
                have HB4 := hid (OwnStr.next (HBA.out.alloc HBA.out.size _) (Nat.le_trans HBA.out.size (alloc_le w5 _)) (HOA.out.alloc _) hg2)
                clear ho2 hg2
                go_wp2_with fail
                go_roundw
                case rel => exact ⟨l + 1, v2, by omega, by go_num, rfl, by rw [HSN.out]; exact HO2.out, HB4⟩
                case measure => first | (simp [intOf]; done) | (simp [intOf]; omega)
              case neg =>
                have hown := HO3.out
                rw [List.take_of_length_le (by rw [List.length_map]; omega)] at hown
                have hbrk := fun (W : World) (hb : Below wq.heap.size wq W) => impl_brk (w := W) ((StrIn.of_own hown).below hb) (by rw [List.length_map]; omega) (by omega)
                have HSC := hid (show (qs.map conTxt).take (k + 1) = (qs.map conTxt).take k ++ [m ++ brk (gs.map Ty.text)] by rw [← List.map_take, ← List.map_take, HTK.out, List.map_append]; rfl)
                generalize brk (gs.map Ty.text) = z at hbrk HSC hs2
                have HBRK := hid hbrk
                have cb0 := (HB3.out.cell (p := ⟨wp.heap.size, 0, none⟩) (alloc_lt wp _)).trans gc0
                have HOQ := hid (ownsRow.below HOC.out HB3.out)
                have HBQ := hid (HBC.out.trans (HB3.out.mono HBC.out.size))
                have hbq0 : Below (wo.alloc (.cells #[.string n, .slice (some ⟨b2, o2, none⟩) qs.length cqs] 74)).heap.size (wo.alloc (.cells #[.string n, .slice (some ⟨b2, o2, none⟩) qs.length cqs] 74)) wq := HBQ.out
                have hbqd : Below (wo.alloc (.cells #[.string n, .slice (some ⟨b2, o2, none⟩) qs.length cqs] 74)).heap.size (wo.alloc (.cells #[.string n, .slice (some ⟨b2, o2, none⟩) qs.length cqs] 74)) wq.drew := HBQ.out.drew
                have hbdq : Below wq.heap.size wq wq.drew := (Below.refl _ _).drew
                have hv0 : v0.ownBlock ≠ some wp.heap.size := fun h => Nat.lt_irrefl _ ((HO.out.lt _ h).2)
                have hkeep : ∀ V V' : World, Below V.heap.size V V' → (Below (wo.alloc (.cells #[.string n, .slice (some ⟨b2, o2, none⟩) qs.length cqs] 74)).heap.size (wo.alloc (.cells #[.string n, .slice (some ⟨b2, o2, none⟩) qs.length cqs] 74)) V ∧ V.cell? ⟨wp.heap.size, 0, none⟩ = some (.string m)) → (Below (wo.alloc (.cells #[.string n, .slice (some ⟨b2, o2, none⟩) qs.length cqs] 74)).heap.size (wo.alloc (.cells #[.string n, .slice (some ⟨b2, o2, none⟩) qs.length cqs] 74)) V' ∧ V'.cell? ⟨wp.heap.size, 0, none⟩ = some (.string m)) := fun V V' hb ⟨h, hc⟩ => ⟨h.trans (hb.mono h.size), (hb.cell (p := ⟨wp.heap.size, 0, none⟩) (World.block_lt_of_cell? _ _ hc)).trans hc⟩
                have hgrow : ∀ V V' : World, V.grownBy V' v0.ownBlock → OwnStr V (wo.alloc (.cells #[.string n, .slice (some ⟨b2, o2, none⟩) qs.length cqs] 74)).heap.size v0 ((qs.map conTxt).take k) → (Below (wo.alloc (.cells #[.string n, .slice (some ⟨b2, o2, none⟩) qs.length cqs] 74)).heap.size (wo.alloc (.cells #[.string n, .slice (some ⟨b2, o2, none⟩) qs.length cqs] 74)) V ∧ V.cell? ⟨wp.heap.size, 0, none⟩ = some (.string m)) → (Below (wo.alloc (.cells #[.string n, .slice (some ⟨b2, o2, none⟩) qs.length cqs] 74)).heap.size (wo.alloc (.cells #[.string n, .slice (some ⟨b2, o2, none⟩) qs.length cqs] 74)) V' ∧ V'.cell? ⟨wp.heap.size, 0, none⟩ = some (.string m)) := fun V V' hg ho ⟨h, hc⟩ => ⟨OwnStr.next h h.size ho hg, (hg.cell_far ⟨wp.heap.size, 0, none⟩ (World.block_lt_of_cell? _ _ hc) (Ne.symm hv0)).trans hc⟩
                have halloc : ∀ (V : World) (o : Obj), (Below (wo.alloc (.cells #[.string n, .slice (some ⟨b2, o2, none⟩) qs.length cqs] 74)).heap.size (wo.alloc (.cells #[.string n, .slice (some ⟨b2, o2, none⟩) qs.length cqs] 74)) V ∧ V.cell? ⟨wp.heap.size, 0, none⟩ = some (.string m)) → (Below (wo.alloc (.cells #[.string n, .slice (some ⟨b2, o2, none⟩) qs.length cqs] 74)).heap.size (wo.alloc (.cells #[.string n, .slice (some ⟨b2, o2, none⟩) qs.length cqs] 74)) (V.alloc o) ∧ (V.alloc o).cell? ⟨wp.heap.size, 0, none⟩ = some (.string m)) := fun V o h => hkeep V _ ((Below.refl _ _).alloc (Nat.le_refl _) o) h
                have KEEP := hid hkeep
                have KEEPG := hid hgrow
                have KEEPA := hid halloc
                have hlz : ((qs.map conTxt).take k).length + 1 ≤ 4194304 := by rw [List.length_take, List.length_map]; omega
                have u2 : ¬ 9223372036854775807 < m.size + z.size := by omega
                have hS0 : Below (wo.alloc (.cells #[.string n, .slice (some ⟨b2, o2, none⟩) qs.length cqs] 74)).heap.size (wo.alloc (.cells #[.string n, .slice (some ⟨b2, o2, none⟩) qs.length cqs] 74)) wq.drew ∧ wq.drew.cell? ⟨wp.heap.size, 0, none⟩ = some (.string m) := ⟨HBQ.out.drew, cb0⟩
                clear hown hbrk hkeep hgrow halloc hv0
                go_wp2_with fail
                go_region_held3 (fun V => Below (wo.alloc (.cells #[.string n, .slice (some ⟨b2, o2, none⟩) qs.length cqs] 74)).heap.size (wo.alloc (.cells #[.string n, .slice (some ⟨b2, o2, none⟩) qs.length cqs] 74)) V ∧ V.cell? ⟨wp.heap.size, 0, none⟩ = some (.string m))
                  (first | exact hS0 | exact KEEP.out _ _ hbq (by assumption) | exact hS3 | exact KEEPA.out _ _ (by assumption) | go_keep)
                  (first
                    | (go_at_call 38; (with_reducible refine (HBRK.out _ (by first | exact Below.refl _ _ | exact hbdq)).mono ?_); rintro e V1 ⟨rfl, hbq⟩; have hov : OwnStr V1 (wo.alloc (.cells #[.string n, .slice (some ⟨b2, o2, none⟩) qs.length cqs] 74)).heap.size v0 ((qs.map conTxt).take k) := ownsRow.below HOQ.out (by first | exact hbq | exact hbdq.trans (hbq.mono hbdq.size)))
                    | (refine step_append_s1 (by rfl) _ _ (by rfl) (wo.alloc (.cells #[.string n, .slice (some ⟨b2, o2, none⟩) qs.length cqs] 74)).heap.size v0 ((qs.map conTxt).take k) (m ++ z) ⟨V1.heap.size, 0, none⟩ (by rfl) (by rfl) (hov.alloc _) (one_new _ _ _) hlz (‹Below (wo.alloc (.cells #[.string n, .slice (some ⟨b2, o2, none⟩) qs.length cqs] 74)).heap.size (wo.alloc (.cells #[.string n, .slice (some ⟨b2, o2, none⟩) qs.length cqs] 74)) _ ∧ _›).1.size ?_; intro v2 w2 ho2 hg2; have hS3 : Below (wo.alloc (.cells #[.string n, .slice (some ⟨b2, o2, none⟩) qs.length cqs] 74)).heap.size (wo.alloc (.cells #[.string n, .slice (some ⟨b2, o2, none⟩) qs.length cqs] 74)) w2 ∧ w2.cell? ⟨wp.heap.size, 0, none⟩ = some (.string m) := KEEPG.out _ _ hg2 (hov.alloc _) (by assumption)))
                have HO5 := hid ho2
                have HB5 := hid hS3.1
                clear KEEP KEEPG KEEPA HBRK
                go_wp2_with fail
                go_roundw
                case rel => exact ⟨k + 1, v2, by omega, by go_num, rfl, by rw [HSC.out]; exact HO5.out, HB5⟩
                case measure => first | (simp [intOf]; done) | (simp [intOf]; omega)
          case neg =>
            have hown := HO.out
            rw [List.take_of_length_le (by rw [List.length_map]; omega)] at hown
            have hjn := fun (W : World) (hb : Below wp.heap.size wp W) => join_in (sep := bar) ((StrIn.of_own hown).below hb) (by rw [List.length_map]; omega) (by decide) (by omega)
            have HSD := hid (show pgTo ds (j + 1) fs 0 = x ++ ((((kwData ++ n) ++ ⟨#[32, 61, 32]⟩) ++ joinS bar (qs.map conTxt)) ++ ⟨#[10]⟩) by rw [HSN.out, HX.out]; rfl)
            generalize joinS bar (qs.map conTxt) = J at hjn HSD hjs
            have HJN := hid hjn
            have db0 := (HB2.out.cell (p := ⟨wo.heap.size, 0, none⟩) (alloc_lt wo _)).trans gd0
            have db1 := (HB2.out.cell (p := ⟨wo.heap.size, 1, none⟩) (alloc_lt wo _)).trans gd1
            have hdx : wp.heap[wo.heap.size]? = some (.cells #[.string n, .slice (some ⟨b2, o2, none⟩) qs.length cqs] 74 (0, 0)) := (HB2.out.block _ (alloc_lt wo _)).trans (heap_alloc_new wo _)
            have HBP := hid (HBL1.out.below HB2.out)
            have hbw0 : Below w1.heap.size w1 wp := HBW2.out
            have hbwd : Below w1.heap.size w1 wp.drew := HBW2.out.drew
            have hbdp : Below wp.heap.size wp wp.drew := (Below.refl _ _).drew
            have hbne : wo.heap.size ≠ w1.heap.size := Nat.ne_of_gt HBL.out.lt
            have hkeep : ∀ V V' : World, Below V.heap.size V V' → (Below w1.heap.size w1 V ∧ V.heap[wo.heap.size]? = some (.cells #[.string n, .slice (some ⟨b2, o2, none⟩) qs.length cqs] 74 (0, 0)) ∧ V.cell? ⟨wo.heap.size, 0, none⟩ = some (.string n)) → (Below w1.heap.size w1 V' ∧ V'.heap[wo.heap.size]? = some (.cells #[.string n, .slice (some ⟨b2, o2, none⟩) qs.length cqs] 74 (0, 0)) ∧ V'.cell? ⟨wo.heap.size, 0, none⟩ = some (.string n)) := fun V V' hb ⟨h, hc, _⟩ => ⟨h.trans (hb.mono h.size), heap_liftP hc hb, heap_cell (heap_liftP hc hb) (j := 0) rfl⟩
            have hkeepw : ∀ V V' : World, Below w1.heap.size V V' → Lib.OthersKept 5 (some w1.heap.size) V V' → (Below w1.heap.size w1 V ∧ V.heap[wo.heap.size]? = some (.cells #[.string n, .slice (some ⟨b2, o2, none⟩) qs.length cqs] 74 (0, 0)) ∧ V.cell? ⟨wo.heap.size, 0, none⟩ = some (.string n)) → (Below w1.heap.size w1 V' ∧ V'.heap[wo.heap.size]? = some (.cells #[.string n, .slice (some ⟨b2, o2, none⟩) qs.length cqs] 74 (0, 0)) ∧ V'.cell? ⟨wo.heap.size, 0, none⟩ = some (.string n)) := fun V V' hb ho ⟨h, hc, _⟩ => ⟨h.trans hb, kept_block ho hc hbne (by decide), heap_cell (kept_block ho hc hbne (by decide)) (j := 0) rfl⟩
            have KEEP := hid hkeep
            have KEEPW := hid hkeepw
            have e1 : (⟨#[100, 97, 116, 97, 32]⟩ : ByteArray).size = 5 := rfl
            have e3 : (⟨#[32, 61, 32]⟩ : ByteArray).size = 3 := rfl
            have e5 : (⟨#[10]⟩ : ByteArray).size = 1 := rfl
            have c1 : ((⟨#[100, 97, 116, 97, 32]⟩ : ByteArray) ++ n).size = 5 + n.size := by rw [ByteArray.size_append, e1]
            have c2 : (((⟨#[100, 97, 116, 97, 32]⟩ : ByteArray) ++ n) ++ (⟨#[32, 61, 32]⟩ : ByteArray)).size = 5 + n.size + 3 := by rw [ByteArray.size_append, c1, e3]
            have c3 : ((((⟨#[100, 97, 116, 97, 32]⟩ : ByteArray) ++ n) ++ (⟨#[32, 61, 32]⟩ : ByteArray)) ++ J).size = 5 + n.size + 3 + J.size := by rw [ByteArray.size_append, c2]
            have u1 : ¬ 9223372036854775807 < 5 + n.size := by omega
            have u2 : ¬ 9223372036854775807 < 5 + n.size + 3 := by omega
            have u3 : ¬ 9223372036854775807 < 5 + n.size + 3 + J.size := by omega
            have u4 : ¬ 9223372036854775807 < 5 + n.size + 3 + J.size + 1 := by omega
            have hwl : x.size + (((((⟨#[100, 97, 116, 97, 32]⟩ : ByteArray) ++ n) ++ (⟨#[32, 61, 32]⟩ : ByteArray)) ++ J) ++ (⟨#[10]⟩ : ByteArray)).size ≤ 492000000 := by rw [ByteArray.size_append, c3, e5]; omega
            have HES := hid (show (x ++ (((((⟨#[100, 97, 116, 97, 32]⟩ : ByteArray) ++ n) ++ (⟨#[32, 61, 32]⟩ : ByteArray)) ++ J) ++ (⟨#[10]⟩ : ByteArray))).size ≤ (j + 1) * 123000000 by rw [ByteArray.size_append, ByteArray.size_append, c3, e5]; omega)
            have HWL := hid hwl
            have hS0 : Below w1.heap.size w1 wp.drew ∧ wp.drew.heap[wo.heap.size]? = some (.cells #[.string n, .slice (some ⟨b2, o2, none⟩) qs.length cqs] 74 (0, 0)) ∧ wp.drew.cell? ⟨wo.heap.size, 0, none⟩ = some (.string n) := ⟨HBW2.out.drew, hdx, db0⟩
            clear hown hjn hkeep hkeepw hwl gd0 gd1 hx
            go_wp2_with fail
            go_region_held3 (fun V => Below w1.heap.size w1 V ∧ V.heap[wo.heap.size]? = some (.cells #[.string n, .slice (some ⟨b2, o2, none⟩) qs.length cqs] 74 (0, 0)) ∧ V.cell? ⟨wo.heap.size, 0, none⟩ = some (.string n))
              (first | exact hS0 | exact KEEP.out _ _ hbq (by assumption) | exact hS3 | go_keep)
              (first
                | (go_at_call 40; (with_reducible refine (HJN.out _ (by first | exact Below.refl _ _ | exact hbdp)).mono ?_); rintro e V1 ⟨rfl, hbq⟩; have hbv : Bld V1 w1.heap.size w1.heap.size x := Bld.below HBP.out (by first | exact hbq | exact hbdp.trans (hbq.mono hbdp.size)))
                | (go_at_call 39; (with_reducible refine (bld_write hbv (Nat.le_trans HWL.out (by decide)) (‹Below w1.heap.size w1 _ ∧ _›).1.size).mono ?_); rintro e V3 ⟨rfl, hbl3, hbb3, hok3⟩; have hS3 : Below w1.heap.size w1 V3 ∧ V3.heap[wo.heap.size]? = some (.cells #[.string n, .slice (some ⟨b2, o2, none⟩) qs.length cqs] 74 (0, 0)) ∧ V3.cell? ⟨wo.heap.size, 0, none⟩ = some (.string n) := KEEPW.out _ _ hbb3 hok3 (by assumption)))
            have HBL5 := hid hbl3
            have HB5 := hid hS3.1
            clear KEEP KEEPW HJN db0 db1
            go_wp2_with fail
            go_roundw
            case rel => exact ⟨j + 1, _, by omega, by go_num, HES.out, HSD.out.symm, HBL5, HB5⟩
            case measure => first | (simp [intOf]; done) | (simp [intOf]; omega)
      case neg =>
        have HX2 := hid (show x = pgTo ds ds.length fs 0 by rw [HX.out, show j = ds.length by omega])
        have hx2 : x.size ≤ 492000000 := by omega
        have b1' := (HB.out.cell (p := ⟨w.heap.size, 1, none⟩) hbx).trans HC1.out
        clear HX hx
        go_wp2_with fail
        clear b1'
        go_loopw [66] (fun i wr => ∃ (j : Nat) (x : ByteArray), j ≤ fs.length ∧ i = .int .i64 j ∧ x.size ≤ 492000000 + j * 123000000 ∧ Hid (x = pgTo ds ds.length fs j) ∧ Hid (Bld wr w1.heap.size w1.heap.size x) ∧ Hid (Below w1.heap.size w1 wr)) (fun i _ => fs.length - (intOf i).toNat)
        case atStart => exact ⟨0, x, by omega, rfl, by omega, HX2, HBL, HB⟩
        case round =>
          clear HX2 hx2 HB hlt hj HBL
          rename World => wo'
          rename Nat => j0
          obtain ⟨j, x, hj, rfl, hx, HX, HBL, HB⟩ := hrel
          by_cases hlt : j < fs.length
          case neg =>
            have hxe : x = pgTxt ds fs := by rw [HX.out, show j = fs.length by omega, pgTo_all]
            have HSG := hid (bld_string HBL.out HB.out.size)
            have HLM := hid (fun W => impl_limited x W (by omega))
            have HR := hid (show lim x = lim (pgTxt ds fs) by rw [hxe])
            clear hxe hx
            go_wp2_with fail
            refine HSG.out.mono ?_
            rintro e w5 ⟨rfl, hb⟩
            have HBZ := hid (HB1.out.trans ((HB.out.trans hb).mono HB1.out.size))
            clear hb
            go_wp2_with fail
            refine (HLM.out _).mono ?_
            rintro e w6 ⟨rfl, rfl⟩
            go_wp2_with fail
            go_ret
            exact ret_strB HR.out HBZ.out
          case pos =>
            obtain ⟨b, o, rfl, hbl, hall⟩ := HF4.out (by omega)
            obtain ⟨t, ht⟩ : ∃ t, fs[j]? = some t := ⟨_, List.getElem?_eq_getElem hlt⟩
            obtain ⟨n3, ⟨tk3, tn3, tks3⟩, ⟨bk3, bu3, bn3, ⟨btk3, btn3, btks3⟩, bns3, bks3⟩⟩ := t
            obtain ⟨atks3, ctks3, abtks3, cbtks3, abns3, cbns3, abks3, cbks3, q0, q1, q2, q3, q4, q5, q6, q7, q8, q9, q10, q11, hrk⟩ := hall j n3 tk3 tn3 tks3 bk3 bu3 bn3 btk3 btn3 btks3 bns3 bks3 ht
            clear hall
            have hbg := Df.bulk_get fs j _ ht
            have hbk : Df.bulk (Df.mk n3 (Ty.mk tk3 tn3 tks3) (Tm.mk bk3 bu3 bn3 (Ty.mk btk3 btn3 btks3) bns3 bks3)) = n3.size + Ty.bulk (Ty.mk tk3 tn3 tks3) + Tm.bulk (Tm.mk bk3 bu3 bn3 (Ty.mk btk3 btn3 btks3) bns3 bks3) := rfl
            have hMn : n3.size ≤ 1048576 := by have := HMF.out; omega
            have hMt : Ty.bulk (Ty.mk tk3 tn3 tks3) ≤ 1048576 := by have := HMF.out; omega
            have hMb : Tm.bulk (Tm.mk bk3 bu3 bn3 (Ty.mk btk3 btn3 btks3) bns3 bks3) ≤ 1048576 := by have := HMF.out; omega
            have hfn := HFF.out j _ ht
            obtain ⟨hgb, hcb⟩ := Tm.ok_goodR hfn.2
            have hts := Ty.text_small hMt
            have hbs := Tm.text_small hgb hMb
            have hsn := pgTo_def ds fs j _ ht
            have hds := df_small hfn (by have := HMF.out; omega)
            have hdt : dfTxt (Df.mk n3 (Ty.mk tk3 tn3 tks3) (Tm.mk bk3 bu3 bn3 (Ty.mk btk3 btn3 btks3) bns3 bks3)) = (((((⟨#[100, 101, 102, 32]⟩ ++ n3) ++ ⟨#[32, 58, 32]⟩) ++ Ty.text (Ty.mk tk3 tn3 tks3)) ++ ⟨#[32, 61, 32]⟩) ++ Tm.text (Tm.mk bk3 bu3 bn3 (Ty.mk btk3 btn3 btks3) bns3 bks3)) ++ ⟨#[10]⟩ := rfl
            rw [hdt] at hsn hds
            have hct := fun (W : World) (hb : Below w1.heap.size w1 W) => impl_text_all (Ty.bulk (Ty.mk tk3 tn3 tks3) + 1) tk3 tn3 tks3 atks3 ctks3 W (by omega) hMt (Ty.ok_goodP hfn.1) ((RdS.subDf_t hrk).below hb)
            have hcp := fun (W : World) (hb : Below w1.heap.size w1 W) => impl_print (Tm.bulk (Tm.mk bk3 bu3 bn3 (Ty.mk btk3 btn3 btks3) bns3 bks3) + 1) bk3 bu3 bn3 btk3 btn3 btks3 bns3 bks3 abtks3 cbtks3 abns3 cbns3 abks3 cbks3 0 W (HPW1.out.below hb) (by omega) hMb hgb ((RdS.subDf_b hrk).below hb)
            rw [Tm.at_0] at hcp
            generalize Ty.text (Ty.mk tk3 tn3 tks3) = y1 at hct hts hsn hds
            generalize Tm.text (Tm.mk bk3 bu3 bn3 (Ty.mk btk3 btn3 btks3) bns3 bks3) = y2 at hcp hbs hsn hds
            have HT := hid hct
            have HT2 := hid hcp
            have HSN := hid (show x ++ ((((((⟨#[100, 101, 102, 32]⟩ ++ n3) ++ ⟨#[32, 58, 32]⟩) ++ y1) ++ ⟨#[32, 61, 32]⟩) ++ y2) ++ ⟨#[10]⟩) = pgTo ds ds.length fs (j + 1) by rw [hsn, HX.out])
            have f1 : (⟨#[100, 101, 102, 32]⟩ : ByteArray).size = 4 := rfl
            have f2 : (⟨#[32, 58, 32]⟩ : ByteArray).size = 3 := rfl
            have f3 : (⟨#[32, 61, 32]⟩ : ByteArray).size = 3 := rfl
            have f4 : (⟨#[10]⟩ : ByteArray).size = 1 := rfl
            have c1 : ((⟨#[100, 101, 102, 32]⟩ : ByteArray) ++ n3).size = 4 + n3.size := by rw [ByteArray.size_append, f1]
            have c2 : (((⟨#[100, 101, 102, 32]⟩ : ByteArray) ++ n3) ++ (⟨#[32, 58, 32]⟩ : ByteArray)).size = 4 + n3.size + 3 := by rw [ByteArray.size_append, c1, f2]
            have c3 : ((((⟨#[100, 101, 102, 32]⟩ : ByteArray) ++ n3) ++ (⟨#[32, 58, 32]⟩ : ByteArray)) ++ y1).size = 4 + n3.size + 3 + y1.size := by rw [ByteArray.size_append, c2]
            have c4 : (((((⟨#[100, 101, 102, 32]⟩ : ByteArray) ++ n3) ++ (⟨#[32, 58, 32]⟩ : ByteArray)) ++ y1) ++ (⟨#[32, 61, 32]⟩ : ByteArray)).size = 4 + n3.size + 3 + y1.size + 3 := by rw [ByteArray.size_append, c3, f3]
            have c5 : ((((((⟨#[100, 101, 102, 32]⟩ : ByteArray) ++ n3) ++ (⟨#[32, 58, 32]⟩ : ByteArray)) ++ y1) ++ (⟨#[32, 61, 32]⟩ : ByteArray)) ++ y2).size = 4 + n3.size + 3 + y1.size + 3 + y2.size := by rw [ByteArray.size_append, c4]
            have u1 : ¬ 9223372036854775807 < 4 + n3.size := by omega
            have u2 : ¬ 9223372036854775807 < 4 + n3.size + 3 := by omega
            have u3 : ¬ 9223372036854775807 < 4 + n3.size + 3 + y1.size := by omega
            have u4 : ¬ 9223372036854775807 < 4 + n3.size + 3 + y1.size + 3 := by omega
            have u5 : ¬ 9223372036854775807 < 4 + n3.size + 3 + y1.size + 3 + y2.size := by omega
            have u6 : ¬ 9223372036854775807 < 4 + n3.size + 3 + y1.size + 3 + y2.size + 1 := by omega
            have HES := hid (show (x ++ ((((((⟨#[100, 101, 102, 32]⟩ ++ n3) ++ ⟨#[32, 58, 32]⟩) ++ y1) ++ ⟨#[32, 61, 32]⟩) ++ y2) ++ ⟨#[10]⟩)).size ≤ 492000000 + (j + 1) * 123000000 by rw [ByteArray.size_append]; omega)
            have HWL := hid (show x.size + ((((((⟨#[100, 101, 102, 32]⟩ ++ n3) ++ ⟨#[32, 58, 32]⟩) ++ y1) ++ ⟨#[32, 61, 32]⟩) ++ y2) ++ ⟨#[10]⟩ : ByteArray).size ≤ 1600000000 by omega)
            rename World => wo
            have d0 := (HB.out.cell (p := ⟨b, o + j * 12, none⟩) hbl).trans q0
            have d1 := (HB.out.cell (p := ⟨b, o + j * 12 + 1, none⟩) hbl).trans q1
            have d2 := (HB.out.cell (p := ⟨b, o + j * 12 + 2, none⟩) hbl).trans q2
            have d3 := (HB.out.cell (p := ⟨b, o + j * 12 + 3, none⟩) hbl).trans q3
            have d4 := (HB.out.cell (p := ⟨b, o + j * 12 + 4, none⟩) hbl).trans q4
            have d5 := (HB.out.cell (p := ⟨b, o + j * 12 + 5, none⟩) hbl).trans q5
            have d6 := (HB.out.cell (p := ⟨b, o + j * 12 + 6, none⟩) hbl).trans q6
            have d7 := (HB.out.cell (p := ⟨b, o + j * 12 + 7, none⟩) hbl).trans q7
            have d8 := (HB.out.cell (p := ⟨b, o + j * 12 + 8, none⟩) hbl).trans q8
            have d9 := (HB.out.cell (p := ⟨b, o + j * 12 + 9, none⟩) hbl).trans q9
            have d10 := (HB.out.cell (p := ⟨b, o + j * 12 + 10, none⟩) hbl).trans q10
            have d11 := (HB.out.cell (p := ⟨b, o + j * 12 + 11, none⟩) hbl).trans q11
            have HDW := hid ((Below.refl wo.heap.size wo).alloc (Nat.le_refl _) (.cells #[.string n3, .int .i64 tk3, .string tn3, .slice atks3 tks3.length ctks3, .int .i64 bk3, .int .i64 bu3, .string bn3, .int .i64 btk3, .string btn3, .slice abtks3 btks3.length cbtks3, .slice abns3 bns3.length cbns3, .slice abks3 bks3.length cbks3] 76))
            have gf0 := heap_cell (heap_alloc_new wo (.cells #[.string n3, .int .i64 tk3, .string tn3, .slice atks3 tks3.length ctks3, .int .i64 bk3, .int .i64 bu3, .string bn3, .int .i64 btk3, .string btn3, .slice abtks3 btks3.length cbtks3, .slice abns3 bns3.length cbns3, .slice abks3 bks3.length cbks3] 76)) (j := 0) rfl
            have gf1 := heap_cell (heap_alloc_new wo (.cells #[.string n3, .int .i64 tk3, .string tn3, .slice atks3 tks3.length ctks3, .int .i64 bk3, .int .i64 bu3, .string bn3, .int .i64 btk3, .string btn3, .slice abtks3 btks3.length cbtks3, .slice abns3 bns3.length cbns3, .slice abks3 bks3.length cbks3] 76)) (j := 1) rfl
            have gf2 := heap_cell (heap_alloc_new wo (.cells #[.string n3, .int .i64 tk3, .string tn3, .slice atks3 tks3.length ctks3, .int .i64 bk3, .int .i64 bu3, .string bn3, .int .i64 btk3, .string btn3, .slice abtks3 btks3.length cbtks3, .slice abns3 bns3.length cbns3, .slice abks3 bks3.length cbks3] 76)) (j := 2) rfl
            have gf3 := heap_cell (heap_alloc_new wo (.cells #[.string n3, .int .i64 tk3, .string tn3, .slice atks3 tks3.length ctks3, .int .i64 bk3, .int .i64 bu3, .string bn3, .int .i64 btk3, .string btn3, .slice abtks3 btks3.length cbtks3, .slice abns3 bns3.length cbns3, .slice abks3 bks3.length cbks3] 76)) (j := 3) rfl
            have gf4 := heap_cell (heap_alloc_new wo (.cells #[.string n3, .int .i64 tk3, .string tn3, .slice atks3 tks3.length ctks3, .int .i64 bk3, .int .i64 bu3, .string bn3, .int .i64 btk3, .string btn3, .slice abtks3 btks3.length cbtks3, .slice abns3 bns3.length cbns3, .slice abks3 bks3.length cbks3] 76)) (j := 4) rfl
            have gf5 := heap_cell (heap_alloc_new wo (.cells #[.string n3, .int .i64 tk3, .string tn3, .slice atks3 tks3.length ctks3, .int .i64 bk3, .int .i64 bu3, .string bn3, .int .i64 btk3, .string btn3, .slice abtks3 btks3.length cbtks3, .slice abns3 bns3.length cbns3, .slice abks3 bks3.length cbks3] 76)) (j := 5) rfl
            have gf6 := heap_cell (heap_alloc_new wo (.cells #[.string n3, .int .i64 tk3, .string tn3, .slice atks3 tks3.length ctks3, .int .i64 bk3, .int .i64 bu3, .string bn3, .int .i64 btk3, .string btn3, .slice abtks3 btks3.length cbtks3, .slice abns3 bns3.length cbns3, .slice abks3 bks3.length cbks3] 76)) (j := 6) rfl
            have gf7 := heap_cell (heap_alloc_new wo (.cells #[.string n3, .int .i64 tk3, .string tn3, .slice atks3 tks3.length ctks3, .int .i64 bk3, .int .i64 bu3, .string bn3, .int .i64 btk3, .string btn3, .slice abtks3 btks3.length cbtks3, .slice abns3 bns3.length cbns3, .slice abks3 bks3.length cbks3] 76)) (j := 7) rfl
            have gf8 := heap_cell (heap_alloc_new wo (.cells #[.string n3, .int .i64 tk3, .string tn3, .slice atks3 tks3.length ctks3, .int .i64 bk3, .int .i64 bu3, .string bn3, .int .i64 btk3, .string btn3, .slice abtks3 btks3.length cbtks3, .slice abns3 bns3.length cbns3, .slice abks3 bks3.length cbks3] 76)) (j := 8) rfl
            have gf9 := heap_cell (heap_alloc_new wo (.cells #[.string n3, .int .i64 tk3, .string tn3, .slice atks3 tks3.length ctks3, .int .i64 bk3, .int .i64 bu3, .string bn3, .int .i64 btk3, .string btn3, .slice abtks3 btks3.length cbtks3, .slice abns3 bns3.length cbns3, .slice abks3 bks3.length cbks3] 76)) (j := 9) rfl
            have gf10 := heap_cell (heap_alloc_new wo (.cells #[.string n3, .int .i64 tk3, .string tn3, .slice atks3 tks3.length ctks3, .int .i64 bk3, .int .i64 bu3, .string bn3, .int .i64 btk3, .string btn3, .slice abtks3 btks3.length cbtks3, .slice abns3 bns3.length cbns3, .slice abks3 bks3.length cbks3] 76)) (j := 10) rfl
            have gf11 := heap_cell (heap_alloc_new wo (.cells #[.string n3, .int .i64 tk3, .string tn3, .slice atks3 tks3.length ctks3, .int .i64 bk3, .int .i64 bu3, .string bn3, .int .i64 btk3, .string btn3, .slice abtks3 btks3.length cbtks3, .slice abns3 bns3.length cbns3, .slice abks3 bks3.length cbks3] 76)) (j := 11) rfl
            have hdx : (wo.alloc (.cells #[.string n3, .int .i64 tk3, .string tn3, .slice atks3 tks3.length ctks3, .int .i64 bk3, .int .i64 bu3, .string bn3, .int .i64 btk3, .string btn3, .slice abtks3 btks3.length cbtks3, .slice abns3 bns3.length cbns3, .slice abks3 bks3.length cbks3] 76)).heap[wo.heap.size]? = some (.cells #[.string n3, .int .i64 tk3, .string tn3, .slice atks3 tks3.length ctks3, .int .i64 bk3, .int .i64 bu3, .string bn3, .int .i64 btk3, .string btn3, .slice abtks3 btks3.length cbtks3, .slice abns3 bns3.length cbns3, .slice abks3 bks3.length cbks3] 76 (0, 0)) := heap_alloc_new wo _
            have hbl0 : Bld (wo.alloc (.cells #[.string n3, .int .i64 tk3, .string tn3, .slice atks3 tks3.length ctks3, .int .i64 bk3, .int .i64 bu3, .string bn3, .int .i64 btk3, .string btn3, .slice abtks3 btks3.length cbtks3, .slice abns3 bns3.length cbns3, .slice abks3 bks3.length cbks3] 76)) w1.heap.size w1.heap.size x := HBL.out.below HDW.out
            have hbld : Bld (wo.alloc (.cells #[.string n3, .int .i64 tk3, .string tn3, .slice atks3 tks3.length ctks3, .int .i64 bk3, .int .i64 bu3, .string bn3, .int .i64 btk3, .string btn3, .slice abtks3 btks3.length cbtks3, .slice abns3 bns3.length cbns3, .slice abks3 bks3.length cbks3] 76)).drew w1.heap.size w1.heap.size x := hbl0
            have hbw0 : Below w1.heap.size w1 (wo.alloc (.cells #[.string n3, .int .i64 tk3, .string tn3, .slice atks3 tks3.length ctks3, .int .i64 bk3, .int .i64 bu3, .string bn3, .int .i64 btk3, .string btn3, .slice abtks3 btks3.length cbtks3, .slice abns3 bns3.length cbns3, .slice abks3 bks3.length cbks3] 76)) := HB.out.trans (HDW.out.mono HB.out.size)
            have hbwd : Below w1.heap.size w1 (wo.alloc (.cells #[.string n3, .int .i64 tk3, .string tn3, .slice atks3 tks3.length ctks3, .int .i64 bk3, .int .i64 bu3, .string bn3, .int .i64 btk3, .string btn3, .slice abtks3 btks3.length cbtks3, .slice abns3 bns3.length cbns3, .slice abks3 bks3.length cbks3] 76)).drew := hbw0.drew
            have hbne : wo.heap.size ≠ w1.heap.size := Nat.ne_of_gt HBL.out.lt
            have hkeep : ∀ V V' : World, Below V.heap.size V V' → (Below w1.heap.size w1 V ∧ V.heap[wo.heap.size]? = some (.cells #[.string n3, .int .i64 tk3, .string tn3, .slice atks3 tks3.length ctks3, .int .i64 bk3, .int .i64 bu3, .string bn3, .int .i64 btk3, .string btn3, .slice abtks3 btks3.length cbtks3, .slice abns3 bns3.length cbns3, .slice abks3 bks3.length cbks3] 76 (0, 0)) ∧ V.cell? ⟨wo.heap.size, 0, none⟩ = some (.string n3) ∧ V.cell? ⟨wo.heap.size, 1, none⟩ = some (.int .i64 tk3) ∧ V.cell? ⟨wo.heap.size, 2, none⟩ = some (.string tn3) ∧ V.cell? ⟨wo.heap.size, 3, none⟩ = some (.slice atks3 tks3.length ctks3) ∧ V.cell? ⟨wo.heap.size, 4, none⟩ = some (.int .i64 bk3) ∧ V.cell? ⟨wo.heap.size, 5, none⟩ = some (.int .i64 bu3) ∧ V.cell? ⟨wo.heap.size, 6, none⟩ = some (.string bn3) ∧ V.cell? ⟨wo.heap.size, 7, none⟩ = some (.int .i64 btk3) ∧ V.cell? ⟨wo.heap.size, 8, none⟩ = some (.string btn3) ∧ V.cell? ⟨wo.heap.size, 9, none⟩ = some (.slice abtks3 btks3.length cbtks3) ∧ V.cell? ⟨wo.heap.size, 10, none⟩ = some (.slice abns3 bns3.length cbns3) ∧ V.cell? ⟨wo.heap.size, 11, none⟩ = some (.slice abks3 bks3.length cbks3)) → (Below w1.heap.size w1 V' ∧ V'.heap[wo.heap.size]? = some (.cells #[.string n3, .int .i64 tk3, .string tn3, .slice atks3 tks3.length ctks3, .int .i64 bk3, .int .i64 bu3, .string bn3, .int .i64 btk3, .string btn3, .slice abtks3 btks3.length cbtks3, .slice abns3 bns3.length cbns3, .slice abks3 bks3.length cbks3] 76 (0, 0)) ∧ V'.cell? ⟨wo.heap.size, 0, none⟩ = some (.string n3) ∧ V'.cell? ⟨wo.heap.size, 1, none⟩ = some (.int .i64 tk3) ∧ V'.cell? ⟨wo.heap.size, 2, none⟩ = some (.string tn3) ∧ V'.cell? ⟨wo.heap.size, 3, none⟩ = some (.slice atks3 tks3.length ctks3) ∧ V'.cell? ⟨wo.heap.size, 4, none⟩ = some (.int .i64 bk3) ∧ V'.cell? ⟨wo.heap.size, 5, none⟩ = some (.int .i64 bu3) ∧ V'.cell? ⟨wo.heap.size, 6, none⟩ = some (.string bn3) ∧ V'.cell? ⟨wo.heap.size, 7, none⟩ = some (.int .i64 btk3) ∧ V'.cell? ⟨wo.heap.size, 8, none⟩ = some (.string btn3) ∧ V'.cell? ⟨wo.heap.size, 9, none⟩ = some (.slice abtks3 btks3.length cbtks3) ∧ V'.cell? ⟨wo.heap.size, 10, none⟩ = some (.slice abns3 bns3.length cbns3) ∧ V'.cell? ⟨wo.heap.size, 11, none⟩ = some (.slice abks3 bks3.length cbks3)) := fun V V' hb ⟨h, hc, _⟩ => ⟨h.trans (hb.mono h.size), heap_liftP hc hb, heap_cell (heap_liftP hc hb) (j := 0) rfl, heap_cell (heap_liftP hc hb) (j := 1) rfl, heap_cell (heap_liftP hc hb) (j := 2) rfl, heap_cell (heap_liftP hc hb) (j := 3) rfl, heap_cell (heap_liftP hc hb) (j := 4) rfl, heap_cell (heap_liftP hc hb) (j := 5) rfl, heap_cell (heap_liftP hc hb) (j := 6) rfl, heap_cell (heap_liftP hc hb) (j := 7) rfl, heap_cell (heap_liftP hc hb) (j := 8) rfl, heap_cell (heap_liftP hc hb) (j := 9) rfl, heap_cell (heap_liftP hc hb) (j := 10) rfl, heap_cell (heap_liftP hc hb) (j := 11) rfl⟩
            have hkeepw : ∀ V V' : World, Below w1.heap.size V V' → Lib.OthersKept 5 (some w1.heap.size) V V' → (Below w1.heap.size w1 V ∧ V.heap[wo.heap.size]? = some (.cells #[.string n3, .int .i64 tk3, .string tn3, .slice atks3 tks3.length ctks3, .int .i64 bk3, .int .i64 bu3, .string bn3, .int .i64 btk3, .string btn3, .slice abtks3 btks3.length cbtks3, .slice abns3 bns3.length cbns3, .slice abks3 bks3.length cbks3] 76 (0, 0)) ∧ V.cell? ⟨wo.heap.size, 0, none⟩ = some (.string n3) ∧ V.cell? ⟨wo.heap.size, 1, none⟩ = some (.int .i64 tk3) ∧ V.cell? ⟨wo.heap.size, 2, none⟩ = some (.string tn3) ∧ V.cell? ⟨wo.heap.size, 3, none⟩ = some (.slice atks3 tks3.length ctks3) ∧ V.cell? ⟨wo.heap.size, 4, none⟩ = some (.int .i64 bk3) ∧ V.cell? ⟨wo.heap.size, 5, none⟩ = some (.int .i64 bu3) ∧ V.cell? ⟨wo.heap.size, 6, none⟩ = some (.string bn3) ∧ V.cell? ⟨wo.heap.size, 7, none⟩ = some (.int .i64 btk3) ∧ V.cell? ⟨wo.heap.size, 8, none⟩ = some (.string btn3) ∧ V.cell? ⟨wo.heap.size, 9, none⟩ = some (.slice abtks3 btks3.length cbtks3) ∧ V.cell? ⟨wo.heap.size, 10, none⟩ = some (.slice abns3 bns3.length cbns3) ∧ V.cell? ⟨wo.heap.size, 11, none⟩ = some (.slice abks3 bks3.length cbks3)) → (Below w1.heap.size w1 V' ∧ V'.heap[wo.heap.size]? = some (.cells #[.string n3, .int .i64 tk3, .string tn3, .slice atks3 tks3.length ctks3, .int .i64 bk3, .int .i64 bu3, .string bn3, .int .i64 btk3, .string btn3, .slice abtks3 btks3.length cbtks3, .slice abns3 bns3.length cbns3, .slice abks3 bks3.length cbks3] 76 (0, 0)) ∧ V'.cell? ⟨wo.heap.size, 0, none⟩ = some (.string n3) ∧ V'.cell? ⟨wo.heap.size, 1, none⟩ = some (.int .i64 tk3) ∧ V'.cell? ⟨wo.heap.size, 2, none⟩ = some (.string tn3) ∧ V'.cell? ⟨wo.heap.size, 3, none⟩ = some (.slice atks3 tks3.length ctks3) ∧ V'.cell? ⟨wo.heap.size, 4, none⟩ = some (.int .i64 bk3) ∧ V'.cell? ⟨wo.heap.size, 5, none⟩ = some (.int .i64 bu3) ∧ V'.cell? ⟨wo.heap.size, 6, none⟩ = some (.string bn3) ∧ V'.cell? ⟨wo.heap.size, 7, none⟩ = some (.int .i64 btk3) ∧ V'.cell? ⟨wo.heap.size, 8, none⟩ = some (.string btn3) ∧ V'.cell? ⟨wo.heap.size, 9, none⟩ = some (.slice abtks3 btks3.length cbtks3) ∧ V'.cell? ⟨wo.heap.size, 10, none⟩ = some (.slice abns3 bns3.length cbns3) ∧ V'.cell? ⟨wo.heap.size, 11, none⟩ = some (.slice abks3 bks3.length cbks3)) := fun V V' hb ho ⟨h, hc, _⟩ => ⟨h.trans hb, kept_block ho hc hbne (by decide), heap_cell (kept_block ho hc hbne (by decide)) (j := 0) rfl, heap_cell (kept_block ho hc hbne (by decide)) (j := 1) rfl, heap_cell (kept_block ho hc hbne (by decide)) (j := 2) rfl, heap_cell (kept_block ho hc hbne (by decide)) (j := 3) rfl, heap_cell (kept_block ho hc hbne (by decide)) (j := 4) rfl, heap_cell (kept_block ho hc hbne (by decide)) (j := 5) rfl, heap_cell (kept_block ho hc hbne (by decide)) (j := 6) rfl, heap_cell (kept_block ho hc hbne (by decide)) (j := 7) rfl, heap_cell (kept_block ho hc hbne (by decide)) (j := 8) rfl, heap_cell (kept_block ho hc hbne (by decide)) (j := 9) rfl, heap_cell (kept_block ho hc hbne (by decide)) (j := 10) rfl, heap_cell (kept_block ho hc hbne (by decide)) (j := 11) rfl⟩
            have KEEP := hid hkeep
            have KEEPW := hid hkeepw
            have hS0 : Below w1.heap.size w1 (wo.alloc (.cells #[.string n3, .int .i64 tk3, .string tn3, .slice atks3 tks3.length ctks3, .int .i64 bk3, .int .i64 bu3, .string bn3, .int .i64 btk3, .string btn3, .slice abtks3 btks3.length cbtks3, .slice abns3 bns3.length cbns3, .slice abks3 bks3.length cbks3] 76)).drew ∧ (wo.alloc (.cells #[.string n3, .int .i64 tk3, .string tn3, .slice atks3 tks3.length ctks3, .int .i64 bk3, .int .i64 bu3, .string bn3, .int .i64 btk3, .string btn3, .slice abtks3 btks3.length cbtks3, .slice abns3 bns3.length cbns3, .slice abks3 bks3.length cbks3] 76)).drew.heap[wo.heap.size]? = some (.cells #[.string n3, .int .i64 tk3, .string tn3, .slice atks3 tks3.length ctks3, .int .i64 bk3, .int .i64 bu3, .string bn3, .int .i64 btk3, .string btn3, .slice abtks3 btks3.length cbtks3, .slice abns3 bns3.length cbns3, .slice abks3 bks3.length cbks3] 76 (0, 0)) ∧ (wo.alloc (.cells #[.string n3, .int .i64 tk3, .string tn3, .slice atks3 tks3.length ctks3, .int .i64 bk3, .int .i64 bu3, .string bn3, .int .i64 btk3, .string btn3, .slice abtks3 btks3.length cbtks3, .slice abns3 bns3.length cbns3, .slice abks3 bks3.length cbks3] 76)).drew.cell? ⟨wo.heap.size, 0, none⟩ = some (.string n3) ∧ (wo.alloc (.cells #[.string n3, .int .i64 tk3, .string tn3, .slice atks3 tks3.length ctks3, .int .i64 bk3, .int .i64 bu3, .string bn3, .int .i64 btk3, .string btn3, .slice abtks3 btks3.length cbtks3, .slice abns3 bns3.length cbns3, .slice abks3 bks3.length cbks3] 76)).drew.cell? ⟨wo.heap.size, 1, none⟩ = some (.int .i64 tk3) ∧ (wo.alloc (.cells #[.string n3, .int .i64 tk3, .string tn3, .slice atks3 tks3.length ctks3, .int .i64 bk3, .int .i64 bu3, .string bn3, .int .i64 btk3, .string btn3, .slice abtks3 btks3.length cbtks3, .slice abns3 bns3.length cbns3, .slice abks3 bks3.length cbks3] 76)).drew.cell? ⟨wo.heap.size, 2, none⟩ = some (.string tn3) ∧ (wo.alloc (.cells #[.string n3, .int .i64 tk3, .string tn3, .slice atks3 tks3.length ctks3, .int .i64 bk3, .int .i64 bu3, .string bn3, .int .i64 btk3, .string btn3, .slice abtks3 btks3.length cbtks3, .slice abns3 bns3.length cbns3, .slice abks3 bks3.length cbks3] 76)).drew.cell? ⟨wo.heap.size, 3, none⟩ = some (.slice atks3 tks3.length ctks3) ∧ (wo.alloc (.cells #[.string n3, .int .i64 tk3, .string tn3, .slice atks3 tks3.length ctks3, .int .i64 bk3, .int .i64 bu3, .string bn3, .int .i64 btk3, .string btn3, .slice abtks3 btks3.length cbtks3, .slice abns3 bns3.length cbns3, .slice abks3 bks3.length cbks3] 76)).drew.cell? ⟨wo.heap.size, 4, none⟩ = some (.int .i64 bk3) ∧ (wo.alloc (.cells #[.string n3, .int .i64 tk3, .string tn3, .slice atks3 tks3.length ctks3, .int .i64 bk3, .int .i64 bu3, .string bn3, .int .i64 btk3, .string btn3, .slice abtks3 btks3.length cbtks3, .slice abns3 bns3.length cbns3, .slice abks3 bks3.length cbks3] 76)).drew.cell? ⟨wo.heap.size, 5, none⟩ = some (.int .i64 bu3) ∧ (wo.alloc (.cells #[.string n3, .int .i64 tk3, .string tn3, .slice atks3 tks3.length ctks3, .int .i64 bk3, .int .i64 bu3, .string bn3, .int .i64 btk3, .string btn3, .slice abtks3 btks3.length cbtks3, .slice abns3 bns3.length cbns3, .slice abks3 bks3.length cbks3] 76)).drew.cell? ⟨wo.heap.size, 6, none⟩ = some (.string bn3) ∧ (wo.alloc (.cells #[.string n3, .int .i64 tk3, .string tn3, .slice atks3 tks3.length ctks3, .int .i64 bk3, .int .i64 bu3, .string bn3, .int .i64 btk3, .string btn3, .slice abtks3 btks3.length cbtks3, .slice abns3 bns3.length cbns3, .slice abks3 bks3.length cbks3] 76)).drew.cell? ⟨wo.heap.size, 7, none⟩ = some (.int .i64 btk3) ∧ (wo.alloc (.cells #[.string n3, .int .i64 tk3, .string tn3, .slice atks3 tks3.length ctks3, .int .i64 bk3, .int .i64 bu3, .string bn3, .int .i64 btk3, .string btn3, .slice abtks3 btks3.length cbtks3, .slice abns3 bns3.length cbns3, .slice abks3 bks3.length cbks3] 76)).drew.cell? ⟨wo.heap.size, 8, none⟩ = some (.string btn3) ∧ (wo.alloc (.cells #[.string n3, .int .i64 tk3, .string tn3, .slice atks3 tks3.length ctks3, .int .i64 bk3, .int .i64 bu3, .string bn3, .int .i64 btk3, .string btn3, .slice abtks3 btks3.length cbtks3, .slice abns3 bns3.length cbns3, .slice abks3 bks3.length cbks3] 76)).drew.cell? ⟨wo.heap.size, 9, none⟩ = some (.slice abtks3 btks3.length cbtks3) ∧ (wo.alloc (.cells #[.string n3, .int .i64 tk3, .string tn3, .slice atks3 tks3.length ctks3, .int .i64 bk3, .int .i64 bu3, .string bn3, .int .i64 btk3, .string btn3, .slice abtks3 btks3.length cbtks3, .slice abns3 bns3.length cbns3, .slice abks3 bks3.length cbks3] 76)).drew.cell? ⟨wo.heap.size, 10, none⟩ = some (.slice abns3 bns3.length cbns3) ∧ (wo.alloc (.cells #[.string n3, .int .i64 tk3, .string tn3, .slice atks3 tks3.length ctks3, .int .i64 bk3, .int .i64 bu3, .string bn3, .int .i64 btk3, .string btn3, .slice abtks3 btks3.length cbtks3, .slice abns3 bns3.length cbns3, .slice abks3 bks3.length cbks3] 76)).drew.cell? ⟨wo.heap.size, 11, none⟩ = some (.slice abks3 bks3.length cbks3) := ⟨hbwd, hdx, gf0, gf1, gf2, gf3, gf4, gf5, gf6, gf7, gf8, gf9, gf10, gf11⟩
            clear ht hrk hbg hbk hMt hMb hfn hgb hcb hsn hds hdt hct hcp hx q0 q1 q2 q3 q4 q5 q6 q7 q8 q9 q10 q11 hkeep hkeepw
            go_wp2_with fail
            clear d0 d1 d2 d3 d4 d5 d6 d7 d8 d9 d10 d11
            go_region_held3 (fun V => Below w1.heap.size w1 V ∧ V.heap[wo.heap.size]? = some (.cells #[.string n3, .int .i64 tk3, .string tn3, .slice atks3 tks3.length ctks3, .int .i64 bk3, .int .i64 bu3, .string bn3, .int .i64 btk3, .string btn3, .slice abtks3 btks3.length cbtks3, .slice abns3 bns3.length cbns3, .slice abks3 bks3.length cbks3] 76 (0, 0)) ∧ V.cell? ⟨wo.heap.size, 0, none⟩ = some (.string n3) ∧ V.cell? ⟨wo.heap.size, 1, none⟩ = some (.int .i64 tk3) ∧ V.cell? ⟨wo.heap.size, 2, none⟩ = some (.string tn3) ∧ V.cell? ⟨wo.heap.size, 3, none⟩ = some (.slice atks3 tks3.length ctks3) ∧ V.cell? ⟨wo.heap.size, 4, none⟩ = some (.int .i64 bk3) ∧ V.cell? ⟨wo.heap.size, 5, none⟩ = some (.int .i64 bu3) ∧ V.cell? ⟨wo.heap.size, 6, none⟩ = some (.string bn3) ∧ V.cell? ⟨wo.heap.size, 7, none⟩ = some (.int .i64 btk3) ∧ V.cell? ⟨wo.heap.size, 8, none⟩ = some (.string btn3) ∧ V.cell? ⟨wo.heap.size, 9, none⟩ = some (.slice abtks3 btks3.length cbtks3) ∧ V.cell? ⟨wo.heap.size, 10, none⟩ = some (.slice abns3 bns3.length cbns3) ∧ V.cell? ⟨wo.heap.size, 11, none⟩ = some (.slice abks3 bks3.length cbks3))
              (first | exact hS0 | exact KEEP.out _ _ hbq (by assumption) | exact hS3 | go_keep)
              (first
                | (go_at_call 37; (with_reducible refine (HT.out _ (‹Below w1.heap.size w1 _ ∧ _›).1).mono ?_); rintro e V1 ⟨rfl, hbq⟩; have hbv1 : Bld V1 w1.heap.size w1.heap.size x := Bld.below (by assumption) hbq)
                | (go_at_call 25; (with_reducible refine (HT2.out _ (‹Below w1.heap.size w1 _ ∧ _›).1).mono ?_); rintro e V2 ⟨rfl, hbq⟩; have hbv2 : Bld V2 w1.heap.size w1.heap.size x := Bld.below (by assumption) hbq)
                | (go_at_call 39; (with_reducible refine (bld_write (by assumption) (Nat.le_trans HWL.out (by decide)) (‹Below w1.heap.size w1 _ ∧ _›).1.size).mono ?_); rintro e V3 ⟨rfl, hbl3, hbb3, hok3⟩; have hS3 : Below w1.heap.size w1 V3 ∧ V3.heap[wo.heap.size]? = some (.cells #[.string n3, .int .i64 tk3, .string tn3, .slice atks3 tks3.length ctks3, .int .i64 bk3, .int .i64 bu3, .string bn3, .int .i64 btk3, .string btn3, .slice abtks3 btks3.length cbtks3, .slice abns3 bns3.length cbns3, .slice abks3 bks3.length cbks3] 76 (0, 0)) ∧ V3.cell? ⟨wo.heap.size, 0, none⟩ = some (.string n3) ∧ V3.cell? ⟨wo.heap.size, 1, none⟩ = some (.int .i64 tk3) ∧ V3.cell? ⟨wo.heap.size, 2, none⟩ = some (.string tn3) ∧ V3.cell? ⟨wo.heap.size, 3, none⟩ = some (.slice atks3 tks3.length ctks3) ∧ V3.cell? ⟨wo.heap.size, 4, none⟩ = some (.int .i64 bk3) ∧ V3.cell? ⟨wo.heap.size, 5, none⟩ = some (.int .i64 bu3) ∧ V3.cell? ⟨wo.heap.size, 6, none⟩ = some (.string bn3) ∧ V3.cell? ⟨wo.heap.size, 7, none⟩ = some (.int .i64 btk3) ∧ V3.cell? ⟨wo.heap.size, 8, none⟩ = some (.string btn3) ∧ V3.cell? ⟨wo.heap.size, 9, none⟩ = some (.slice abtks3 btks3.length cbtks3) ∧ V3.cell? ⟨wo.heap.size, 10, none⟩ = some (.slice abns3 bns3.length cbns3) ∧ V3.cell? ⟨wo.heap.size, 11, none⟩ = some (.slice abks3 bks3.length cbks3) := KEEPW.out _ _ hbb3 hok3 (by assumption)))
            all_goals (
              have HBL5 := hid hbl3
              have HB5 := hid hS3.1
              clear KEEP KEEPW HT HT2
              go_wp2_with fail
              go_roundw
              case rel => exact ⟨j + 1, _, by omega, by go_num, HES.out, HSN, HBL5, HB5⟩
              case measure => first | (simp [intOf]; done) | (simp [intOf]; omega))
end Go.Proofs.YtikhofcjkcbpbaaGreatDoor
