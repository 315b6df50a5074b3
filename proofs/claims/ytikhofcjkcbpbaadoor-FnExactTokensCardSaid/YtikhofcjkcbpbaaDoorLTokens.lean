/- FnExactTokens: for every input, where the listed variables hold what the program's text lays; the card ties that. -/
import Derived.Test.YtikhofcjkcbpbaaDoorCard
import Derived.Test.YtikhofcjkcbpbaaDoorCards
import Derived.Test.YtikhofcjkcbpbaaDoorTie
import Derived.SevenTiedAt
import Derived.LaidMore
import Derived.ProofKit
import Derived.OpenShut
import Derived.Test.YtikhofcjkcbpbaaDoorTkX
import Derived.Test.YtikhofcjkcbpbaaDoorHdTk
namespace Go.Proofs.YtikhofcjkcbpbaaDoor
open Go.ChangeShapes Go.WideShapes Go.ChangeAt Go.RowKit
set_option linter.unusedVariables false

theorem tkRun_len (t : ByteArray) : ∀ (f i : Nat) (acc : List Tk), (tkRun t f i acc).1.length ≤ acc.length + f
  | 0, i, acc => by unfold tkRun; simp
  | f + 1, i, acc => by
    unfold tkRun
    split
    · split
      · have := tkRun_len t f (i + 1) acc; omega
      · split
        · first | (simp; done) | (simp; omega)
        · have := tkRun_len t f (tkAt t i).2 (acc ++ [Tk.mk (tkAt t i).1 (t.extract i (tkAt t i).2) i])
          simp only [List.length_append, List.length_singleton] at this
          omega
    · first | (simp; done) | (simp; omega)
theorem tkRes_len (t : ByteArray) : (tkRes t).1.length ≤ 20000 := by
  unfold tkRes
  split
  · simp
  · have h := tkRun_len t t.size 0 []
    split
    · rename_i hr
      rw [hr] at h
      simp at h ⊢
      omega
    · simp
set_option maxRecDepth 100000 in
set_option maxHeartbeats 2000000 in
theorem FnExactTokens_walk (s : ByteArray) (w : World) (hsz : s.size ≤ maxLen) (hp : Pow w) (he : Errs w) :
    Calls Tryd.prog 6 #[.string s] w fun e w' => e = .returned (.bool true) ∧ Below w.heap.size w w' := by
  unfold maxLen at hsz
  have HP := hid hp
  have HE := hid he
  clear hp he
  by_cases hs : s.size ≤ 1048576
  case neg =>
    go_enter Tryd.func6, Tryd.ntmps6
    go_wp2_with fail
    go_ret
    exact ⟨rfl, Below.refl _ _⟩
  case pos =>
    have hlen := tkRes_len s
    have HS := hid (fun W => spec_Tokens s hs W)
    have HI := hid (fun W (hb : Below w.heap.size w W) => impl_Tokens s hs W (HP.out.below hb) (HE.out.below hb))
    generalize tkRes s = r at hlen HS HI
    obtain ⟨L, p, q⟩ := r
    unfold GivesTks at HS HI
    simp only at hlen HS HI
    have HLL := hid hlen
    clear hlen
    go_enter Tryd.func6, Tryd.ntmps6
    go_wp2_with fail
    refine (HS.out _).mono ?_
    rintro e v1 ⟨aw, cw, rfl, how, hb⟩
    have HB1 := hid hb
    have W1 := hid how.rd
    have HSZ := hid hb.size
    clear hb how
    go_wp2_with fail
    refine (HI.out _ HB1.out).mono ?_
    rintro e v2 ⟨ag, cg, rfl, hog, hb⟩
    obtain ⟨Fg, hRg, hOg⟩ := hog
    have HB2 := hid (HB1.out.trans (hb.mono HB1.out.size))
    have HV2 := hid hb
    have W2 := hid (W1.out.below hb)
    have LO := hid (fun b (hm : b ∈ Fg) => (hOg.2 b hm).1)
    have RG := hid hRg
    have OG := hid (hOg.mono (base' := 0) (Nat.zero_le _))
    clear hb hRg hOg
    go_wp2_with fail
    refine (eqTks L ag aw cg cw _ ⟨Fg, RG.out⟩ W2.out).mono ?_
    rintro e v3 ⟨rfl, hb⟩
    have HB3 := hid (HB2.out.trans (hb.mono HB2.out.size))
    have HV3 := hid (HV2.out.trans (hb.mono HV2.out.size))
    have RG3 := hid (RG.out.below hb)
    have OG3 := hid (OG.out.below hb)
    clear hb
    have hm := markTks L ag cg Fg 1 v3 (by have := HLL.out; omega) (by rw [nums_Tk]; have := HLL.out; omega) RG3.out OG3.out
    unfold MkPost at hm
    have hmm : 1 + D.nums (Tk.ds L) = 1 + 3 * L.length := by rw [nums_Tk]
    rw [hmm, show ((1 : Nat) : Int) = 1 from rfl] at hm
    have HM := hid hm
    clear hm hmm
    go_wp2_with fail
    refine HM.out.mono ?_
    rintro e v4 ⟨rfl, hrd, hmk⟩
    have HB4 := hid (Mk.below HB3.out hmk (fun b hb => Nat.le_trans HSZ.out (LO.out b hb)) HB3.out.size)
    have HV4 := hid (Mk.below HV3.out hmk (fun b hb => LO.out b hb) HV3.out.size)
    have RM4 := hid (show RdL v4 (D.marks 1 (Tk.ds L)) (.slice ag L.length cg) from ⟨Fg, hrd⟩)
    clear hmk hrd HM
    have hh := heldTks L ag cg 1 v4 (by have := HLL.out; omega) RM4.out
    rw [show ((1 : Nat) : Int) = 1 from rfl] at hh
    obtain ⟨mm, hmm⟩ : ∃ mm, mm = 1 + 3 * L.length := ⟨_, rfl⟩
    rw [← hmm] at hh ⊢
    have HH := hid hh
    have hm0 : decide ((mm : Int) < 0) = false := decide_eq_false (by omega)
    have HMM := hid hmm
    clear hh hmm
    go_wp2_with fail
    refine HH.out.mono ?_
    rintro e v5 ⟨rfl, hb⟩
    have HB5 := hid (HB4.out.trans (hb.mono HB4.out.size))
    have HV5 := hid (HV4.out.trans (hb.mono HV4.out.size))
    have RM5 := hid (RM4.out.below hb)
    clear hb
    go_wp2_with fail
    refine (HI.out _ HB5.out).mono ?_
    rintro e v6 ⟨ah, ch, rfl, hoh, hb⟩
    have HB6 := hid (HB5.out.trans (hb.mono HB5.out.size))
    have HV6 := hid (HV5.out.trans (hb.mono HV5.out.size))
    have RM6 := hid (RM5.out.below hb)
    have RH6 := hid hoh.rd
    clear hb hoh
    go_wp2_with fail
    refine (eqTks L ah aw ch cw _ RH6.out (W1.out.below HV6.out)).mono ?_
    rintro e v7 ⟨rfl, hb⟩
    have HB7 := hid (HB6.out.trans (hb.mono HB6.out.size))
    have RM7 := hid (RM6.out.below hb)
    clear hb
    have hh := heldTks L ag cg 1 v7 (by have := HLL.out; omega) RM7.out
    rw [show ((1 : Nat) : Int) = 1 from rfl, ← HMM.out] at hh
    have HH2 := hid hh
    clear hh
    go_wp2_with fail
    refine HH2.out.mono ?_
    rintro e v8 ⟨rfl, hb⟩
    have HB8 := hid (HB7.out.trans (hb.mono HB7.out.size))
    clear hb
    go_wp2_with fail
    go_ret
    exact ⟨rfl, HB8.out⟩
theorem FnExactTokens_errs {W : World} (h : laidMetH Tryd.prog Rows.fnExactTokensRow.laid W) : Errs W := by
  rw [MakeChecks.laidMetH_plain _ _ _ (by kernel_rfl)] at h
  exact errs_of_laid h
/-- The heap that the program's own run leaves meets the row's condition. -/
theorem FnExactTokens_met (os : Os) (args : Array Value) : laidMetH Tryd.prog Rows.fnExactTokensRow.laid ((World.doorLaid Tryd.prog 62 os).forCall (fun _ _ => 0) ⟨#[], args, []⟩).memory := by
  rw [MakeChecks.laidMetH_plain _ _ _ (by kernel_rfl)]
  exact laidMet_of_run' 8 (by kernel_rfl) (by kernel_rfl)
theorem FnExactTokens_pow {W : World} (h : laidMetH Tryd.prog Rows.fnExactTokensRow.laid W) : Pow W := by
  rw [MakeChecks.laidMetH_plain _ _ _ (by kernel_rfl)] at h
  exact pow_of_laid h
set_option maxRecDepth 100000 in
theorem FnExactTokens_lifted (os : Os) (started : os.Started) (H : Type) (enc : TypeId × Value → H) :
    ReturnsInHanded {} Tryd.checked os 6 .any (fun w args => (Rows.fnExactTokensSpec.pre enc Tryd.prog Tryd.f6 [] false w args ∧ laidMetH Tryd.prog Rows.fnExactTokensRow.laid w) ∧ sizedMet enc Tryd.prog Tryd.f6 (OpenSpec.ofChange Rows.fnExactTokensSpec) false w args) (Rows.fnExactTokensSpec.post enc Tryd.prog Tryd.f6 false true false false) := by
  refine law_lifted_laid (C := Tryd.checked) (tb := 4) own started (by kernel_rfl) Tryd.func6 laidOut (by intro t ht; rw [Tryd.params6] at ht; simp at ht; subst ht; exact ⟨by kernel_rfl, of_decide_eq_true (by kernel_rfl)⟩) rfl Tryd.underlying4 rfl ?_
    (ChangeSpec.witness_shaped (enc := enc) (C := Tryd.checked) (os := os) (X := fun w _ => laidMetH Tryd.prog Rows.fnExactTokensRow.laid w) false (World.doorLaid Tryd.prog 62 os) #[.string ⟨#[]⟩] 8 rfl (World.shaped_of_RefB (by kernel_rfl) (by kernel_rfl)) (by kernel_rfl) (by kernel_rfl) (by kernel_rfl) (FnExactTokens_met os _)) ?_
  · intro ds hds
    rw [Tryd.params6] at hds
    match ds, hds with
    | [_], _ => exact ⟨rfl, rfl, rfl⟩
  intro W base args ds p hval0 hA0 hlt hL
  have hval : ∀ (j : Nat) t v, Tryd.f6.params[j]? = some t → args[j]? = some v → Value.okWide Tryd.prog W .any base t v := hval0
  have hA : DataW.TrodAll enc Tryd.prog W 0 (fun _ => true) true Tryd.f6.params.toList args.toList ds p := hA0
  rw [Tryd.params6] at hA hval
  clear hval0 hA0
  obtain ⟨v0, vs0, d0, ds0, p0, q0, hargs0, rfl, rfl, h0, r0⟩ := trodAll_cons hA
  obtain ⟨rfl, rfl, rfl⟩ := trodAll_nil r0
  obtain rfl : args = #[v0] := by cases args; simp_all
  obtain ⟨s, rfl, rfl, rfl, hsz⟩ := Go.ChangeMaps.open_string Tryd.underlying9 (hval 0 9 v0 rfl rfl) h0
  exact FnExactTokens_walk s W hsz (FnExactTokens_pow hL) (FnExactTokens_errs hL)
theorem FnExactTokens_row : Rows.FnExactTokensSaid :=
  OpenClaim.holds_of_wide 6 Tryd.f6 rfl rfl rfl rfl rfl rfl rfl ⟨rfl, rfl, rfl, rfl, rfl⟩ rfl rfl rfl rfl rfl (by kernel_rfl) Tryd.func6 (by kernel_rfl)
    (of_decide_eq_true (by kernel_rfl)) (by unfold Func.isWrapper; first | (rw [if_pos (by decide +kernel)]; kernel_rfl) | (rw [if_neg (by decide +kernel)]; exact ⟨rfl, rfl⟩))
    (fun os started H enc _ => FnExactTokens_lifted os started H enc)
theorem FnExactTokensCard_holds : Rows.FnExactTokensCardSaid :=
  Claim7.holds_tied_plain_at .later [] Rows.fnExactTokensCard.laidKinds true Rows.fnExactTokensCard.stood.harness Rows.fnExactTokensCard.stood.looks
    FnExactTokens_row (fun _ h => by cases h) (by kernel_rfl) (fun _ h => by cases h) fnExactTokens_row_tie rfl ⟨rfl, rfl⟩ (by kernel_rfl) rfl
    (fun f fn hf hfn => by
      obtain rfl : f = 6 := Option.some.inj ((show Tryd.prog.funcNamed "loop.example/g01074/laws.FnExactTokens" = some 6 by kernel_rfl).symm.trans hf) |>.symm
      obtain rfl : fn = Tryd.f6 := (Option.some.inj (Tryd.func6.symm.trans hfn)).symm
      exact ⟨by kernel_rfl, fun j t ht => by
        rw [Tryd.params6] at ht
        have hm : t ∈ [9] := by simpa using Array.mem_of_getElem? ht
        have hall : ([9].all fun u => !Tryd.prog.wantsStandIn u) = true := by kernel_rfl
        exact (show Tryd.prog.wantsStandIn t = false by simpa using List.all_eq_true.1 hall t hm)⟩)
    (by kernel_rfl)
end Go.Proofs.YtikhofcjkcbpbaaDoor
