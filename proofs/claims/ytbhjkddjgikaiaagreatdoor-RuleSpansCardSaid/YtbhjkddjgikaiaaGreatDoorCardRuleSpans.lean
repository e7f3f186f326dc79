import Derived.Test.YtbhjkddjgikaiaaGreatDoorCards
import Derived.Test.YtbhjkddjgikaiaaGreatDoorTie
import Derived.Test.YtbhjkddjgikaiaaGreatDoorMrg1
import Derived.Test.YtbhjkddjgikaiaaGreatDoorMrg37
import Derived.Test.YtbhjkddjgikaiaaGreatDoorMrg25
import Derived.Test.YtbhjkddjgikaiaaGreatDoorIn15
import Derived.WalkKit
import Derived.ProofKit
import Derived.OpenShut
import Derived.ShutString
import Derived.ChangeOld
import Derived.Below
import Derived.SizedLaws
import Derived.Lib.SmallJoins
import Derived.Deep.DeepHandedRow
import Derived.Deep.DeepWitnessRowRef
namespace Go.Proofs.YtbhjkddjgikaiaaGreatDoor.ruleSpans
open Go.ChangeShapes Go.WideShapes Go.ChangeAt Go.RowKit
open Go.ChangeMaps (open_string shut_string)
set_option linter.unusedVariables false
theorem own : ownKnob Tryz.prog.godebug = none := by kernel_rfl
theorem laidOut : laidOutB Tryz.prog = true := pLaid
theorem reads (os : Os) {H : Type} (enc : TypeId × Value → H) : ∃ places, DataW.whole enc Tryz.prog ((wd os).forCall (fun _ _ => 0) ⟨#[], #[.agg #[.slice none 0 0, .slice none 0 0, .int .i16 0, .slice none 0 0, .slice none 0 0]], []⟩).memory Tryz.f10.params.toList Rows.ruleSpansSpec.vars false (#[.agg #[.slice none 0 0, .slice none 0 0, .int .i16 0, .slice none 0 0, .slice none 0 0]] : Array Value).toList 8 = some ([.agg [.nil, .nil, .lit (.int .i16 0), .nil, .nil]], [], places) :=
  ⟨[], by kernel_rfl⟩
set_option maxRecDepth 100000 in
theorem lifted (os : Os) (started : os.Started) (H : Type) (enc : TypeId × Value → H) (F : Stop.Interp) :
    ReturnsInHanded {} Tryz.checked os 10 .any ((OpenSpec.ofChange Rows.ruleSpansSpec).preRow enc Tryz.prog Tryz.f10 Rows.ruleSpansRow.domain false Rows.ruleSpansRow.laid) (((OpenSpec.ofChange Rows.ruleSpansSpec).at F).post enc Tryz.prog Tryz.f10 false true false false) := by
  obtain ⟨places0, hx⟩ := reads os enc
  refine returnsInHanded_of_row (C := Tryz.checked) (s := (OpenSpec.ofChange Rows.ruleSpansSpec)) own started (by kernel_rfl) Tryz.func10
    (witness_row_atRef (enc := enc) (C := Tryz.checked) false (wd os) #[.agg #[.slice none 0 0, .slice none 0 0, .int .i16 0, .slice none 0 0, .slice none 0 0]] rfl (door_vars os _) (door_heap os _) (by kernel_rfl)
      (OpenSpec.preRow_of_cond 8 hx (by kernel_rfl) (fun k hk => by cases hk) (by kernel_rfl) (door_met13 os _))) ?_
  intro W base args ds gs before hval0 hW hcnd hcond hsz0 hL hShape _
  have hG : Glb13 W := glb13_of hL hShape
  have hsz : (DataW.weightsEach Tryz.prog (Tryz.f10.params.toList ++ Rows.ruleSpansSpec.plain.varTypes Tryz.prog) (ds ++ gs)).all (· ≤ reachBytes) = true := hsz0
  have hval : ∀ (j : Nat) t v, Tryz.f10.params[j]? = some t → args[j]? = some v → Value.okWide Tryz.prog W .any base t v := hval0
  have hW' := hW
  obtain ⟨p, q, hA0, hV, rfl, hfz, hnd⟩ := hW
  have hA : DataW.TrodAll enc Tryz.prog W 0 (fun _ => true) true Tryz.f10.params.toList args.toList ds p := hA0
  rw [Tryz.params10] at hA hval hsz
  obtain ⟨v0, vs0, d0, ds0, p0, q0, hargs, rfl, rfl, h0, r0⟩ := trodAll_cons hA
  obtain ⟨rfl, rfl, rfl⟩ := trodAll_nil r0
  obtain rfl : args = #[v0] := by cases args; simp_all
  obtain ⟨rfl, rfl⟩ := trodVars_none hV
  have k0 := h0
  have lt0 : ∀ x ∈ p0, x.block < W.heap.size := by obtain ⟨m, hm⟩ := k0; exact DataW.trod_lt m _ _ _ hm
  obtain ⟨a0, cap0, l0, pu0, cu0, lu0, first0, pl0, cl0, long0, aj0, cj0, lj0, rfl, hE0, hok0, hU0, hub0, hf0, hlb0, hL0, hJ0, hJo0, hm0⟩ := open_bk (hval 0 62 v0 rfl rfl) h0
  clear hA0 hval0 hsz0 hsz
  refine (ruleSpans_law a0 cap0 l0 pu0 cu0 lu0 first0 pl0 cl0 long0 aj0 cj0 lj0 W hG hE0 hok0 hU0 hub0 hf0 hlb0 hL0 hJ0 hJo0 hm0).mono fun e W' ⟨he, bel⟩ => ?_
  subst he
  exact ⟨_, rfl, _, _, _, [], _, [], hW', trodAll_mk1 (shut_bool Tryz.underlying4 _), (trodAll_cons_mk (Below.trod laidOut (by kernel_rfl) (of_decide_eq_true (by kernel_rfl)) k0 bel lt0) trodAll_mk0), rfl, bel.frame _, fun h => by cases h⟩
set_option maxHeartbeats 8000000 in
theorem joined : joinedFacts Tryz.prog 10 Tryz.f10 (OpenSpec.ofChange Rows.ruleSpansSpec).bare Rows.ruleSpansRow = true :=
  joined_of pLaid pMaps pStops pKnobs pHeard pEnter pKeys (by as_aux_lemma => kernel_rfl) (by as_aux_lemma => kernel_rfl) (by as_aux_lemma => kernel_rfl) (by as_aux_lemma => kernel_rfl) (by as_aux_lemma => kernel_rfl) (by as_aux_lemma => kernel_rfl) rfl (by as_aux_lemma => kernel_rfl) (by as_aux_lemma => kernel_rfl) (by as_aux_lemma => kernel_rfl) (by as_aux_lemma => kernel_rfl) (by as_aux_lemma => kernel_rfl) (by as_aux_lemma => kernel_rfl) (by as_aux_lemma => kernel_rfl) (by as_aux_lemma => kernel_rfl) (by as_aux_lemma => kernel_rfl)
set_option maxHeartbeats 8000000 in
theorem said : Rows.RuleSpansSaid :=
  OpenClaim.holds_of_cond 10 Tryz.f10 rfl rfl rfl rfl rfl rfl rfl ⟨rfl, rfl, rfl, rfl, rfl⟩ rfl rfl rfl rfl rfl (by as_aux_lemma => kernel_rfl) Tryz.func10 joined
    (of_decide_eq_true (by kernel_rfl)) (by unfold Func.isWrapper; first | (rw [if_pos (by decide +kernel)]; kernel_rfl) | (rw [if_neg (by decide +kernel)]; exact ⟨rfl, rfl⟩))
    (fun os started H enc _ F => by rw [OpenClaim.pre_eq_preRow]; exact lifted os started H enc F)
theorem plain (f : FuncId) (fn : Func) (hf : Tryz.pinned.checked.prog.funcNamed "transposal/transposallaw15.RuleSpans" = some f) (hfn : Tryz.pinned.checked.prog.funcs[f]? = some fn) :
    true = Tryz.pinned.checked.prog.looks [] ∧ ∀ (j : Nat) t, fn.params[j]? = some t → Tryz.pinned.checked.prog.wantsStandIn t = false := by
  obtain rfl : f = 10 := Option.some.inj ((show Tryz.prog.funcNamed "transposal/transposallaw15.RuleSpans" = some 10 by kernel_rfl).symm.trans hf) |>.symm
  obtain rfl : fn = Tryz.f10 := (Option.some.inj (Tryz.func10.symm.trans hfn)).symm
  refine ⟨by kernel_rfl, fun j t ht => ?_⟩
  have hall : (Tryz.f10.params.toList.all fun t => !Tryz.prog.wantsStandIn t) = true := by kernel_rfl
  have := List.all_eq_true.1 hall t (by have := Array.mem_of_getElem? ht; exact Array.mem_toList_iff.2 this)
  cases hb : Tryz.prog.wantsStandIn t
  · exact hb
  · rw [hb] at this; cases this
set_option maxHeartbeats 8000000 in
theorem card : Rows.RuleSpansCardSaid :=
  Claim7.holds_tied_plain_at .later [] _ _ _ _ said (fun _ h => by cases h) (by as_aux_lemma => kernel_rfl) (fun _ h => by cases h) ruleSpans_row_tie rfl ⟨rfl, rfl⟩ (by as_aux_lemma => kernel_rfl) rfl plain (goes_of pNoGo rfl)
#print axioms card
end Go.Proofs.YtbhjkddjgikaiaaGreatDoor.ruleSpans
namespace Go.Proofs.YtbhjkddjgikaiaaGreatDoor
/-- The card, under a short name, for the claim. -/
theorem ruleSpansCard_holds : Rows.RuleSpansCardSaid := ruleSpans.card
end Go.Proofs.YtbhjkddjgikaiaaGreatDoor

