import Derived.Test.YtlpdfglbdijkoaaGreatDoorCards
import Derived.Test.YtlpdfglbdijkoaaGreatDoorTie
import Derived.Test.YtlpdfglbdijkoaaGreatDoorMrg1
import Derived.Test.YtlpdfglbdijkoaaGreatDoorMrg28
import Derived.Test.YtlpdfglbdijkoaaGreatDoorMrg20
import Derived.Test.YtlpdfglbdijkoaaGreatDoorOwnIn15b
import Derived.Test.YtlpdfglbdijkoaaGreatDoorOwnMapK
import Derived.WalkKit
import Derived.ProofKit
import Derived.OpenShut
import Derived.ShutString
import Derived.ChangeOld
import Derived.Below
import Derived.SizedLaws
import Derived.Lib.SmallJoins
import Derived.Deep.DeepHandedRow
import Derived.Deep.DeepWitnessRowRef
namespace Go.Proofs.YtlpdfglbdijkoaaGreatDoor.ruleKeeps
open Go.ChangeShapes Go.WideShapes Go.ChangeAt Go.RowKit
open Go.ChangeMaps (open_string shut_string)
set_option linter.unusedVariables false
theorem own:ownKnob Tryz.prog.godebug = none:=by kernel_rfl
theorem laidOut:laidOutB Tryz.prog = true:=pLaid
theorem reads (os:Os) {H:Type} (enc:TypeId × Value→H):∃ places,DataW.whole enc Tryz.prog ((wd os).forCall (fun _ _=>0) ⟨#[],#[.agg #[.slice none 0 0,.slice none 0 0,.int .i16 0,.slice none 0 0,.slice none 0 0],.agg #[.int .u8 0,.int .u8 0,.int .u8 0,.int .u8 0,.slice none 0 0,.int .i16 0,.slice none 0 0]],[]⟩).memory Tryz.f3.params.toList Rows.ruleKeepsSpec.vars false (#[.agg #[.slice none 0 0,.slice none 0 0,.int .i16 0,.slice none 0 0,.slice none 0 0],.agg #[.int .u8 0,.int .u8 0,.int .u8 0,.int .u8 0,.slice none 0 0,.int .i16 0,.slice none 0 0]]:Array Value).toList 8 = some ([.agg [.nil,.nil,.lit (.int .i16 0),.nil,.nil],.agg [.lit (.int .u8 0),.lit (.int .u8 0),.lit (.int .u8 0),.lit (.int .u8 0),.nil,.lit (.int .i16 0),.nil]],[],places) :=
 ⟨[],by kernel_rfl⟩
set_option maxRecDepth 100000 in
theorem lifted (os:Os) (started:os.Started) (H:Type) (enc:TypeId × Value→H) (F:Stop.Interp) :
  ReturnsInHanded {} Tryz.checked os 3 .any ((OpenSpec.ofChange Rows.ruleKeepsSpec).preRow enc Tryz.prog Tryz.f3 Rows.ruleKeepsRow.domain false Rows.ruleKeepsRow.laid) (((OpenSpec.ofChange Rows.ruleKeepsSpec).at F).post enc Tryz.prog Tryz.f3 false true false false):=by
 obtain ⟨places0,hx⟩:=reads os enc
 refine returnsInHanded_of_row (C:=Tryz.checked) (s:=(OpenSpec.ofChange Rows.ruleKeepsSpec)) own started (by kernel_rfl) Tryz.func3
  (witness_row_atRef (enc:=enc) (C:=Tryz.checked) false (wd os) #[.agg #[.slice none 0 0,.slice none 0 0,.int .i16 0,.slice none 0 0,.slice none 0 0],.agg #[.int .u8 0,.int .u8 0,.int .u8 0,.int .u8 0,.slice none 0 0,.int .i16 0,.slice none 0 0]] rfl (zrx os _) (zry os _) (by kernel_rfl)
   (OpenSpec.preRow_of_cond 8 hx (by kernel_rfl) (fun k hk=>by cases hk) (by kernel_rfl) (zoj os _))) ?_
 intro W base args ds gs before hval0 hW hcnd hcond hsz0 hL hShape _
 have hG:Glb13 W:=zue hL hShape
 have hsz:(DataW.weightsEach Tryz.prog (Tryz.f3.params.toList ++ Rows.ruleKeepsSpec.plain.varTypes Tryz.prog) (ds ++ gs)).all (·≤reachBytes) = true:=hsz0
 have hval:∀ (j:Nat) t v,Tryz.f3.params[j]? = some t→args[j]? = some v→Value.okWide Tryz.prog W .any base t v:=hval0
 have hW':=hW
 obtain ⟨p,q,hA0,hV,rfl,hfz,hnd⟩:=hW
 have hA:DataW.TrodAll enc Tryz.prog W 0 (fun _=>true) true Tryz.f3.params.toList args.toList ds p:=hA0
 rw [Tryz.params3] at hA hval hsz
 obtain ⟨v0,vs0,d0,ds0,p0,q0,hargs,rfl,rfl,h0,r0⟩:=trodAll_cons hA
 obtain ⟨v1,vs1,d1,ds1,p1,q1,rfl,rfl,rfl,h1,r1⟩:=trodAll_cons r0
 obtain ⟨rfl,rfl,rfl⟩:=trodAll_nil r1
 obtain rfl:args = #[v0,v1]:=by cases args; simp_all
 obtain ⟨rfl,rfl⟩:=trodVars_none hV
 have k0:=h0
 have lt0:∀ x ∈ p0,x.block < W.heap.size:=by obtain ⟨m,hm⟩:=k0; exact DataW.trod_lt m _ _ _ hm
 have k1:=h1
 have lt1:∀ x ∈ p1,x.block < W.heap.size:=by obtain ⟨m,hm⟩:=k1; exact DataW.trod_lt m _ _ _ hm
 obtain ⟨a0,cap0,l0,pu0,cu0,lu0,first0,pl0,cl0,long0,aj0,cj0,lj0,rfl,hE0,hok0,hU0,hub0,hf0,hlb0,hL0,hJ0,hJo0,hm0⟩:=open_bk (hval 0 28 v0 rfl rfl) h0
 obtain ⟨y1,vp1,vl1,rfl,oy1,oP1,oL1⟩:=open_o1 (hval 1 31 v1 rfl rfl) h1
 clear hA0 hval0 hsz0 hsz
 refine (zha a0 cap0 l0 pu0 cu0 lu0 first0 pl0 cl0 long0 aj0 cj0 lj0 y1 vp1 vl1 W hG hE0 hok0 hU0 hub0 hf0 hlb0 hL0 hJ0 hm0 oy1 oP1 oL1).mono fun e W' ⟨he,bel⟩=>?_
 subst he
 exact ⟨_,rfl,_,_,_,[],_,[],hW',trodAll_mk1 (shut_bool Tryz.underlying4 _),(trodAll_cons_mk (Below.trod laidOut (by kernel_rfl) (of_decide_eq_true (by kernel_rfl)) k0 bel lt0) (trodAll_cons_mk (Below.trod laidOut (by kernel_rfl) (of_decide_eq_true (by kernel_rfl)) k1 bel lt1) trodAll_mk0)),rfl,bel.frame _,fun h=>by cases h⟩
set_option maxHeartbeats 8000000 in
theorem joined:joinedFacts Tryz.prog 3 Tryz.f3 (OpenSpec.ofChange Rows.ruleKeepsSpec).bare Rows.ruleKeepsRow = true :=
 zrl pLaid pMaps pStops pKnobs pHeard pEnter pKeys (by as_aux_lemma=>kernel_rfl) (by as_aux_lemma=>kernel_rfl) (by as_aux_lemma=>kernel_rfl) (by as_aux_lemma=>kernel_rfl) (by as_aux_lemma=>kernel_rfl) (by as_aux_lemma=>kernel_rfl) rfl (by as_aux_lemma=>kernel_rfl) (by as_aux_lemma=>kernel_rfl) (by as_aux_lemma=>kernel_rfl) (by as_aux_lemma=>kernel_rfl) (by as_aux_lemma=>kernel_rfl) (by as_aux_lemma=>kernel_rfl) (by as_aux_lemma=>kernel_rfl) (by as_aux_lemma=>kernel_rfl) (by as_aux_lemma=>kernel_rfl)
set_option maxHeartbeats 8000000 in
theorem said:Rows.RuleKeepsSaid :=
 OpenClaim.holds_of_cond 3 Tryz.f3 rfl rfl rfl rfl rfl rfl rfl ⟨rfl,rfl,rfl,rfl,rfl⟩ rfl rfl rfl rfl rfl (by as_aux_lemma=>kernel_rfl) Tryz.func3 joined
  (of_decide_eq_true (by kernel_rfl)) (by unfold Func.isWrapper; first | (rw [if_pos (by decide +kernel)]; kernel_rfl) | (rw [if_neg (by decide +kernel)]; exact ⟨rfl,rfl⟩))
  (fun os started H enc _ F=>by rw [OpenClaim.pre_eq_preRow]; exact lifted os started H enc F)
theorem plain (f : FuncId) (fn : Func) (hf : Tryz.pinned.checked.prog.funcNamed "transposal/transposallaw15.RuleKeeps" = some f) (hfn : Tryz.pinned.checked.prog.funcs[f]? = some fn) :
  true = Tryz.pinned.checked.prog.looks []∧∀ (j:Nat) t,fn.params[j]? = some t→Tryz.pinned.checked.prog.wantsStandIn t = false:=by
 obtain rfl : f = 3 := Option.some.inj ((show Tryz.prog.funcNamed "transposal/transposallaw15.RuleKeeps" = some 3 by kernel_rfl).symm.trans hf) |>.symm
 obtain rfl:fn = Tryz.f3:=(Option.some.inj (Tryz.func3.symm.trans hfn)).symm
 refine ⟨by kernel_rfl,fun j t ht=>?_⟩
 have hall:(Tryz.f3.params.toList.all fun t=>!Tryz.prog.wantsStandIn t) = true:=by kernel_rfl
 have:=List.all_eq_true.1 hall t (by have:=Array.mem_of_getElem? ht; exact Array.mem_toList_iff.2 this)
 cases hb:Tryz.prog.wantsStandIn t
 ·exact hb
 ·rw [hb] at this; cases this
set_option maxHeartbeats 8000000 in
theorem card:Rows.RuleKeepsCardSaid :=
 Claim7.holds_tied_plain_at .later [] _ _ _ _ said (fun _ h=>by cases h) (by as_aux_lemma=>kernel_rfl) (fun _ h=>by cases h) ruleKeeps_row_tie rfl ⟨rfl,rfl⟩ (by as_aux_lemma=>kernel_rfl) rfl plain (goes_of pNoGo rfl)
#print axioms card
end Go.Proofs.YtlpdfglbdijkoaaGreatDoor.ruleKeeps
namespace Go.Proofs.YtlpdfglbdijkoaaGreatDoor
theorem ruleKeepsCard_holds:Rows.RuleKeepsCardSaid:=ruleKeeps.card
end Go.Proofs.YtlpdfglbdijkoaaGreatDoor