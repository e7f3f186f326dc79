/-
  The tied card of the law KeyPacks: the call returns true, and each argument reads afterwards as it read before.
-/
import Derived.Test.YtahagfdjpldblaaDoorCards
import Derived.Test.YtahagfdjpldblaaDoorTie
import Derived.Test.YtahagfdjpldblaaDoorLaid
import Derived.Test.YtahagfdjpldblaaDoorLaid5
import Derived.Test.YtahagfdjpldblaaDoorLaw5c
import Derived.WalkKit
import Derived.ProofKit
import Derived.OpenShut
import Derived.ShutString
import Derived.ChangeOld
import Derived.Below
import Derived.SizedLaws
import Derived.Lib.SmallJoins
import Derived.Deep.DeepHandedRow
import Derived.Deep.DeepWitnessRowRef
namespace Go.Proofs.YtahagfdjpldblaaDoor.keyPacks
open Go.ChangeShapes Go.WideShapes Go.ChangeAt Go.RowKit
open Go.ChangeMaps (open_string shut_string)
set_option linter.unusedVariables false
theorem own : ownKnob Tryd.prog.godebug = none := by kernel_rfl
theorem laidOut : laidOutB Tryd.prog = true := by kernel_rfl
theorem reads (os : Os) {H : Type} (enc : TypeId × Value → H) : ∃ places, DataW.whole enc Tryd.prog ((wd os).forCall (fun _ _ => 0) ⟨#[], #[.agg #[.int .u32 0, .int .u16 0, .int .u16 0], .agg #[.int .u32 0, .int .u16 0, .int .u16 0], .int .u8 0], []⟩).memory Tryd.f4.params.toList Rows.keyPacksSpec.vars false (#[.agg #[.int .u32 0, .int .u16 0, .int .u16 0], .agg #[.int .u32 0, .int .u16 0, .int .u16 0], .int .u8 0] : Array Value).toList 8 = some ([.agg [.lit (.int .u32 0), .lit (.int .u16 0), .lit (.int .u16 0)], .agg [.lit (.int .u32 0), .lit (.int .u16 0), .lit (.int .u16 0)], .lit (.int .u8 0)], [], places) :=
  ⟨[], by kernel_rfl⟩
set_option maxRecDepth 100000 in
theorem lifted (os : Os) (started : os.Started) (H : Type) (enc : TypeId × Value → H) (F : Stop.Interp) :
    ReturnsInHanded {} Tryd.checked os 4 .any ((OpenSpec.ofChange Rows.keyPacksSpec).preRow enc Tryd.prog Tryd.f4 Rows.keyPacksRow.domain false Rows.keyPacksRow.laid) (((OpenSpec.ofChange Rows.keyPacksSpec).at F).post enc Tryd.prog Tryd.f4 false true false false) := by
  obtain ⟨places0, hx⟩ := reads os enc
  refine returnsInHanded_of_row (C := Tryd.checked) (s := (OpenSpec.ofChange Rows.keyPacksSpec)) own started (by kernel_rfl) Tryd.func4
    (witness_row_atRef (enc := enc) (C := Tryd.checked) false (wd os) #[.agg #[.int .u32 0, .int .u16 0, .int .u16 0], .agg #[.int .u32 0, .int .u16 0, .int .u16 0], .int .u8 0] rfl (door_vars os _) (door_heap os _) (by kernel_rfl)
      (OpenSpec.preRow_of_cond 8 hx (by kernel_rfl) (fun k hk => by cases hk) (by kernel_rfl) (door_met5 os _))) ?_
  intro W base args ds gs before hval0 hW hcnd hcond hsz0 hL hShape _
  have hG : Glb5 W := glb5_of hL hShape
  have hsz : (DataW.weightsEach Tryd.prog (Tryd.f4.params.toList ++ Rows.keyPacksSpec.plain.varTypes Tryd.prog) (ds ++ gs)).all (· ≤ reachBytes) = true := hsz0
  have hval : ∀ (j : Nat) t v, Tryd.f4.params[j]? = some t → args[j]? = some v → Value.okWide Tryd.prog W .any base t v := hval0
  have hW' := hW
  obtain ⟨p, q, hA0, hV, rfl, hfz, hnd⟩ := hW
  have hA : DataW.TrodAll enc Tryd.prog W 0 (fun _ => true) true Tryd.f4.params.toList args.toList ds p := hA0
  rw [Tryd.params4] at hA hval hsz
  obtain ⟨v0, vs0, d0, ds0, p0, q0, hargs, rfl, rfl, h0, r0⟩ := trodAll_cons hA
  obtain ⟨v1, vs1, d1, ds1, p1, q1, rfl, rfl, rfl, h1, r1⟩ := trodAll_cons r0
  obtain ⟨v2, vs2, d2, ds2, p2, q2, rfl, rfl, rfl, h2, r2⟩ := trodAll_cons r1
  obtain ⟨rfl, rfl, rfl⟩ := trodAll_nil r2
  obtain rfl : args = #[v0, v1, v2] := by cases args; simp_all
  obtain ⟨rfl, rfl⟩ := trodVars_none hV
  have k0 := h0
  have lt0 : ∀ x ∈ p0, x.block < W.heap.size := by obtain ⟨m, hm⟩ := k0; exact DataW.trod_lt m _ _ _ hm
  have k1 := h1
  have lt1 : ∀ x ∈ p1, x.block < W.heap.size := by obtain ⟨m, hm⟩ := k1; exact DataW.trod_lt m _ _ _ hm
  have k2 := h2
  have lt2 : ∀ x ∈ p2, x.block < W.heap.size := by obtain ⟨m, hm⟩ := k2; exact DataW.trod_lt m _ _ _ hm
  obtain ⟨c0_0, c0_1, c0_2, y0_0, y0_1, y0_2, m0, rfl, rfl, rfl, hy0_0, hy0_1, hy0_2⟩ := Go.Joins.open_agg3 Tryd.underlying27 (by kernel_rfl) (by kernel_rfl) (hval 0 27 v0 rfl rfl) h0
  obtain ⟨a0_0, e0_0, rfl, z0_0⟩ := DataW.trod_int Tryd.underlying24 hy0_0
  simp at e0_0
  subst e0_0
  have w0_0 := Go.bounds_u32 z0_0
  obtain ⟨a0_1, e0_1, rfl, z0_1⟩ := DataW.trod_int Tryd.underlying25 hy0_1
  simp at e0_1
  subst e0_1
  have w0_1 := Go.bounds_u16 z0_1
  obtain ⟨a0_2, e0_2, rfl, z0_2⟩ := DataW.trod_int Tryd.underlying25 hy0_2
  simp at e0_2
  subst e0_2
  have w0_2 := Go.bounds_u16 z0_2
  obtain ⟨c1_0, c1_1, c1_2, y1_0, y1_1, y1_2, m1, rfl, rfl, rfl, hy1_0, hy1_1, hy1_2⟩ := Go.Joins.open_agg3 Tryd.underlying27 (by kernel_rfl) (by kernel_rfl) (hval 1 27 v1 rfl rfl) h1
  obtain ⟨a1_0, e1_0, rfl, z1_0⟩ := DataW.trod_int Tryd.underlying24 hy1_0
  simp at e1_0
  subst e1_0
  have w1_0 := Go.bounds_u32 z1_0
  obtain ⟨a1_1, e1_1, rfl, z1_1⟩ := DataW.trod_int Tryd.underlying25 hy1_1
  simp at e1_1
  subst e1_1
  have w1_1 := Go.bounds_u16 z1_1
  obtain ⟨a1_2, e1_2, rfl, z1_2⟩ := DataW.trod_int Tryd.underlying25 hy1_2
  simp at e1_2
  subst e1_2
  have w1_2 := Go.bounds_u16 z1_2
  obtain ⟨a2, rfl, rfl, rfl, z2⟩ := open_int Tryd.underlying5 (hval 2 5 v2 rfl rfl) h2
  have w2 := Go.bounds_u8 z2
  clear hA0 hval0 hsz0 hsz
  refine (keyPacks_law a0_0 a0_1 a0_2 a1_0 a1_1 a1_2 a2 w0_0 w0_1 w0_2 w1_0 w1_1 w1_2 w2 W hG).mono fun e W' ⟨he, bel⟩ => ?_
  subst he
  exact ⟨_, rfl, _, _, _, [], _, [], hW', trodAll_mk1 (shut_bool Tryd.underlying4 _), (trodAll_cons_mk (Below.trod laidOut (by kernel_rfl) (of_decide_eq_true (by kernel_rfl)) k0 bel lt0) (trodAll_cons_mk (Below.trod laidOut (by kernel_rfl) (of_decide_eq_true (by kernel_rfl)) k1 bel lt1) (trodAll_cons_mk (Below.trod laidOut (by kernel_rfl) (of_decide_eq_true (by kernel_rfl)) k2 bel lt2) trodAll_mk0))), rfl, bel.frame _, fun h => by cases h⟩
theorem said : Rows.KeyPacksSaid :=
  OpenClaim.holds_of_cond 4 Tryd.f4 rfl rfl rfl rfl rfl rfl rfl ⟨rfl, rfl, rfl, rfl, rfl⟩ rfl rfl rfl rfl rfl (by kernel_rfl) Tryd.func4 (by kernel_rfl)
    (of_decide_eq_true (by kernel_rfl)) (by unfold Func.isWrapper; first | (rw [if_pos (by decide +kernel)]; kernel_rfl) | (rw [if_neg (by decide +kernel)]; exact ⟨rfl, rfl⟩))
    (fun os started H enc _ F => by rw [OpenClaim.pre_eq_preRow]; exact lifted os started H enc F)
theorem plain (f : FuncId) (fn : Func) (hf : Tryd.pinned.checked.prog.funcNamed "transposal/transposallaw05.KeyPacks" = some f) (hfn : Tryd.pinned.checked.prog.funcs[f]? = some fn) :
    true = Tryd.pinned.checked.prog.looks [] ∧ ∀ (j : Nat) t, fn.params[j]? = some t → Tryd.pinned.checked.prog.wantsStandIn t = false := by
  obtain rfl : f = 4 := Option.some.inj ((show Tryd.prog.funcNamed "transposal/transposallaw05.KeyPacks" = some 4 by kernel_rfl).symm.trans hf) |>.symm
  obtain rfl : fn = Tryd.f4 := (Option.some.inj (Tryd.func4.symm.trans hfn)).symm
  refine ⟨by kernel_rfl, fun j t ht => ?_⟩
  have hall : (Tryd.f4.params.toList.all fun t => !Tryd.prog.wantsStandIn t) = true := by kernel_rfl
  have := List.all_eq_true.1 hall t (by have := Array.mem_of_getElem? ht; exact Array.mem_toList_iff.2 this)
  cases hb : Tryd.prog.wantsStandIn t
  · exact hb
  · rw [hb] at this; cases this
theorem card : Rows.KeyPacksCardSaid :=
  Claim7.holds_tied_plain_at .later [] _ _ _ _ said (fun _ h => by cases h) (by kernel_rfl) (fun _ h => by cases h) keyPacks_row_tie rfl ⟨rfl, rfl⟩ (by kernel_rfl) rfl plain (by kernel_rfl)
#print axioms card
end Go.Proofs.YtahagfdjpldblaaDoor.keyPacks
namespace Go.Proofs.YtahagfdjpldblaaDoor
/-- The card, under a short name, for the claim. -/
theorem keyPacksCard_holds : Rows.KeyPacksCardSaid := keyPacks.card
end Go.Proofs.YtahagfdjpldblaaDoor

