/- The frame of a law whose row lists variables: what is left of a given statement is the walk of the law's own text. No condition. -/
import Derived.Test.YtikhofcjkcbpbaaDoorFrame
import Derived.Test.YtikhofcjkcbpbaaDoorRows
import Derived.Lib.LaidTab
import Derived.Sort.Grow
import Derived.Deep.Draws
import Derived.Lib.ItoaNum
import Derived.LaidLaws
import Derived.MakeChecks
import Derived.WalkSmall
import Derived.Stop.LaidErr
import Derived.Stop.Joined
namespace Go.Proofs.YtikhofcjkcbpbaaDoor
open Go.ChangeShapes Go.WideShapes Go.ChangeAt Go.RowKit
set_option linter.unusedVariables false

/-- A law that returns true and changes nothing that was there, where listed variables read as listed. -/
theorem law_lifted_laid {C : Checked} {f : FuncId} {fn : Func} {s : ChangeSpec} {H : Type} {enc : TypeId × Value → H} {os : Os} {tb : TypeId} {laid : List (String × DataW Unit)}
    (hown : ownKnob C.prog.godebug = none) (started : os.Started) (noInit : C.prog.inits.idxOf? f = none) (hfn : C.prog.funcs[f]? = some fn) (hl : laidOutB C.prog = true)
    (hts : ∀ t ∈ fn.params.toList, C.prog.readableRec t = true ∧ t < C.prog.types.size) (hres : fn.resultTypes = #[tb]) (hb : C.prog.underlying tb = some .bool) (hvars : s.vars = [])
    (hspec : ∀ ds : List (DataW H), ds.length = fn.params.size → (s.fn H ds).results = [.lit (.bool true)] ∧ (s.fn H ds).args = ds ∧ (s.fn H ds).vars = [])
    (witness : ∃ (w : World) (tape : Tape) (i : Input), w.os = os ∧ (w.forCall tape i).Shaped C.prog ∧ i.vars = [] ∧ Input.okWide C.prog (w.forCall tape i) .any w.heap.size f i ∧
      ((s.pre enc C.prog fn [] false (w.forCall tape i).memory i.args ∧ laidMetH C.prog laid (w.forCall tape i).memory) ∧ sizedMet enc C.prog fn (OpenSpec.ofChange s) false (w.forCall tape i).memory i.args) ∧ ({} : Assume).holds C.prog (lone (Frame.enter C.prog f i.args .normal) [] (w.forCall tape i)))
    (walk : ∀ (W : World) (base : Nat) (args : Array Value) (ds : List (DataW H)) (p : List MemPlace),
      (∀ (j : Nat) t v, fn.params[j]? = some t → args[j]? = some v → Value.okWide C.prog W .any base t v) →
      DataW.TrodAll enc C.prog W 0 (fun _ => true) true fn.params.toList args.toList ds p → (∀ x ∈ p, x.block < W.heap.size) → laidMetH C.prog laid W →
      Calls C.prog f args W fun e W' => e = .returned (.bool true) ∧ Below W.heap.size W W') :
    ReturnsInHanded {} C os f .any (fun w args => (s.pre enc C.prog fn [] false w args ∧ laidMetH C.prog laid w) ∧ sizedMet enc C.prog fn (OpenSpec.ofChange s) false w args) (s.post enc C.prog fn false true false false) := by
  refine returnsInHanded_of_change_and (C := C) (X := fun w _ => laidMetH C.prog laid w) (fun _ _ _ hh h => h.of_heap hh) hown started noInit hfn witness ?_
  intro W base args ds gs before hval hW _ _ hL _
  have hW' := hW
  obtain ⟨p, q, hA, hV, hpq, hfz, hnd⟩ := hW
  rw [hvars] at hV
  obtain ⟨rfl, rfl⟩ : gs = [] ∧ q = [] := by
    match gs, hV with
    | [], h => exact ⟨rfl, h⟩
  rw [List.append_nil] at hpq
  subst hpq
  have hlt : ∀ x ∈ before, x.block < W.heap.size := fun x hx => by simpa using hW'.lt x hx
  have hlen : ∀ (ts : List TypeId) (vs : List Value) (es : List (DataW H)) (ps : List MemPlace), DataW.TrodAll enc C.prog W 0 (fun _ => true) true ts vs es ps → es.length = ts.length := by
    intro ts
    induction ts with
    | nil => intro vs es ps h; match vs, es, h with | [], [], _ => rfl
    | cons t ts ih => intro vs es ps h; match vs, es, h with | v :: vs, d :: ds, ⟨_, _, _, h2, _⟩ => simp [ih _ _ _ h2]
  obtain ⟨r1, r2, r3⟩ := hspec ds (by simpa using hlen _ _ _ _ hA)
  refine (walk W base args ds before hval hA hlt hL).mono fun e W' ⟨he, hb'⟩ => ?_
  subst he
  have e0 : ds ++ [] = ds := List.append_nil ds
  refine ⟨_, rfl, ds, [], before, [], before, [], hW', ?_, ?_, ?_, hb'.frame _, fun h => by cases h⟩
  · rw [e0, r1, hres]
    exact trodAll_cons_mk (shut_bool hb true) trodAll_mk0
  · rw [e0, r2]
    exact trodAll_below hl hb' _ _ _ _ hts hA hlt _ (fun x hx => by simpa using hlt x hx)
  · rw [e0, r3, hvars]
    exact rfl

/-- The table of powers of ten, as a walk asks it. -/
abbrev Pow (w : World) : Prop := Lib.TabIs Tryd.prog w "internal/strconv.uint64pow10" .u64 Lib.pow10Tab
theorem gPow : Tryd.prog.globalNamed "internal/strconv.uint64pow10" = some 0 := by kernel_rfl
theorem Pow.below {w w' : World} (h : Pow w) (hb : Below w.heap.size w w') : Pow w' := by
  have hv : w.var? Tryd.prog "internal/strconv.uint64pow10" = some (Lib.pow10Tab.map fun z => Value.int .u64 z).toArray := h
  refine var?_below hb gPow ?_ hv
  rcases Nat.lt_or_ge 0 w.heap.size with h' | h'
  · exact h'
  · exfalso
    unfold World.var? at hv
    rw [gPow, Option.bind_some, Array.getElem?_eq_none h'] at hv
    cases hv
theorem grow_below (w : World) (k : Nat) (os : Array Obj) : Below w.heap.size w (Go.Sort.grow (w.drewN k) os) := by
  refine ⟨rfl, rfl, rfl, ?_, fun x hx => ?_⟩
  · simp [Go.Sort.grow, World.drewN]
  · simp [Go.Sort.grow, World.drewN, Array.getElem?_append_left hx]
end Go.Proofs.YtikhofcjkcbpbaaDoor
