/-
  Own texts, several in one (RegT, Scr1, Laid13).
-/
import Derived.Test.YtbhjkddjgikaiaaGreatDoorMrg5
import Derived.Test.YtbhjkddjgikaiaaGreatDoorMrg23
import Derived.Test.YtbhjkddjgikaiaaGreatDoorShelfC
import Derived.Test.YtbhjkddjgikaiaaGreatDoorMrg24
import Derived.Shelf.Strings.OnBuilder
import Derived.Test.YtbhjkddjgikaiaaGreatDoorMrg4
namespace Go.Proofs.YtbhjkddjgikaiaaGreatDoor
open Go.RowKit
set_option linter.unusedVariables false
set_option linter.unusedSimpArgs false

/-- every operation but mz is ma, or ma waits for it; mz waits for ma -/
def tailOk (ops : Array Oper) (f mb ma mz : Nat) : Bool :=
  decide (mb < ops.size) && decide (ma < ops.size) && decide (mz < ops.size) && !(mb == ma) && !(mb == mz) && !(ma == mz) && (afterOf ops mz).contains ma &&
  (List.range ops.size).all fun i => i == mz || waits ops f ma i
/-- the value of slot s is settled when operation o comes up, but for what operation mz writes -/
def settledT (ops : Array Oper) (mz : Nat) (o : Oper) (s : Nat) : Bool :=
  (List.range ops.size).all fun j => j == mz || (match dstAt ops j with | some t => t != s || ((o.after.toList.filter (Region.binds .any)).map (·.on)).contains j | none => true)
def regSetT (ops : Array Oper) (mz sz : Nat) : Bool :=
  (List.range ops.size).all fun i => ((ops[i]?).map fun o =>
    (match o.op with | .select _ _ => false | _ => true) &&
    (o.op.operands.toList.all fun x => match x with | .tmp s => decide (s < sz) && settledT ops mz o s | _ => true) &&
    (match o.guard with | some (j, _) => (match dstAt ops j with | some s => decide (s < sz) && settledT ops mz o s | none => true) | none => true)).getD true
theorem fill_oldL {ops : Array Oper} {L : Nat → Bool} {V : Nat → Value} {a0 : Act} (s : Nat) (hs : s < a0.tmps.size) : ∀ n, (∀ j, j < n → L j = true → dstAt ops j ≠ some s) → (fill ops L V a0 n).tmps.getD s undef = a0.tmps.getD s undef
  | 0, _ => rfl
  | n + 1, h => by
    have ih := fill_oldL (ops := ops) (L := L) (V := V) s hs n (fun j hj => h j (by omega))
    unfold fill
    by_cases c : L n = true
    · rw [if_pos c, put_get _ _ _ _ (by rw [fill_size]; exact hs), if_neg (h n (by omega) c), ih]
    · rw [if_neg c, ih]
theorem settledT_reads {ops : Array Oper} {a0 : Act} {L : Nat → Bool} {V vals : Nat → Value} {mz : Nat} (hd : ∀ i j s, dstAt ops i = some s → dstAt ops j = some s → i = j) {o : Oper} (s : Nat) (hs : s < a0.tmps.size) (h : settledT ops mz o s = true)
    (hpre : ∀ k, ((o.after.toList.filter (Region.binds .any)).map (·.on)).contains k = true → L k = true) (hz : L mz = false) (hV : ∀ j, j < ops.size → L j = true → V j = vals j) :
    (fill ops L V a0 ops.size).eval (.tmp s) = (fill ops (fun j => j != mz) vals a0 ops.size).eval (.tmp s) := by
  show (fill ops L V a0 ops.size).tmps.getD s undef = (fill ops (fun j => j != mz) vals a0 ops.size).tmps.getD s undef
  have h := List.all_eq_true.1 h
  by_cases c : ∃ j, j < ops.size ∧ j ≠ mz ∧ dstAt ops j = some s
  · obtain ⟨j, hj, hjz, hjs⟩ := c
    have h1 := h j (by simpa using hj)
    rw [hjs] at h1
    have hne : (j == mz) = false := beq_eq_false_iff_ne.2 hjz
    simp only [hne, bne_self_eq_false, Bool.false_or] at h1
    have hL := hpre j h1
    rw [fill_hit hd j s hs hL hjs ops.size hj, hV j hj hL]
    exact (fill_hit hd j s hs (by simpa using hjz) hjs ops.size hj).symm
  · rw [fill_oldL s hs ops.size fun j hj hL e => c ⟨j, hj, (fun e2 => by rw [e2, hz] at hL; cases hL), e⟩]
    exact (fill_oldL s hs ops.size fun j hj hL e => c ⟨j, hj, by simpa using hL, e⟩).symm
def tailV (mb ma mz : Nat) (vals : Nat → Value) (vb va : Value) (j : Nat) : Value := if j = mb then vb else if j = ma then va else if j = mz then va else vals j
section
variable {P : Program} {Q : Exit → Act → World → Prop} {ops : Array Oper} {a0 : Act}
/-- what each step owes, in the frame that holds what is done -/
def StepF (P : Program) (Q : Exit → Act → World → Prop) (ops : Array Oper) (a0 : Act) (I : (Nat → Bool) → (Nat → Value) → World → Prop) (i : Nat) (o : Oper) : Prop :=
  ∀ (L : Nat → Bool) (V : Nat → Value) (w : World), L i = false → (∀ k, ((o.after.toList.filter (Region.binds .any)).map (·.on)).contains k = true → L k = true) → I L V w →
    wpOp P ops Q i (fun a' w' => ∃ v, a' = (fill ops L V a0 ops.size).put (dstAt ops i) v ∧ I (Upd L i) (updV V i v) w') (fill ops L V a0 ops.size) w
theorem region_invF_any (I : (Nat → Bool) → (Nat → Value) → World → Prop) (hok : regOk ops = true)
    (hstep : ∀ (i : Nat) (o : Oper), ops[i]? = some o → StepF P Q ops a0 I i o)
    (hend : ∀ V w, I (fun _ => true) V w → Q .normal (fill ops (fun _ => true) V a0 ops.size) w) :
    ∀ fuel (listed : Array Bool) V w, listed.size = ops.size → ((List.range ops.size).countP fun i => !listed.getD i true) ≤ fuel → I (fun i => listed.getD i true) V w →
      wpAny P .any ops Q fuel listed (fill ops (fun i => listed.getD i true) V a0 ops.size) w := by
  have hdst := regOk_dst hok
  have allDone : ∀ (listed : Array Bool), listed.size = ops.size → Region.ready .any ops listed = [] → (fun i => listed.getD i true) = fun _ => true := by
    intro listed hsz hr
    funext i
    have main : ∀ n i, i < n → listed.getD i true = true := by
      intro n
      induction n with
      | zero => intro i h; omega
      | succ n ih =>
        intro i hi
        by_cases c : listed.getD i true = true
        · exact c
        · exfalso
          have hlt : i < ops.size := by
            by_cases c2 : i < ops.size
            · exact c2
            · exact absurd (by simp [Array.getD, show ¬ i < listed.size by omega]) c
          have hm : i ∈ Region.ready .any ops listed := by
            unfold Region.ready
            rw [List.mem_filter]
            refine ⟨by simpa using hlt, ?_⟩
            have ho : ops[i]? = some ops[i] := Array.getElem?_eq_getElem hlt
            rw [ho]
            simp only [Option.map_some, Option.getD_some, Bool.and_eq_true]
            refine ⟨by simpa using c, ?_⟩
            rw [Array.all_eq_true_iff_forall_mem]
            intro e he
            by_cases hbe : Region.binds .any e = true
            · have hlte := regOk_after hok i _ ho e he hbe
              have h2 := ih e.on (by omega)
              have h3 : listed.getD e.on false = listed.getD e.on true := by simp [Array.getD, show e.on < listed.size by omega]
              rw [h3, h2]; simp
            · simp [hbe]
          rw [hr] at hm; cases hm
    exact main (i + 1) i (by omega)
  intro fuel
  induction fuel with
  | zero =>
    intro listed V w hsz hc hI
    have hr : Region.ready .any ops listed = [] := by
      unfold Region.ready
      rw [List.filter_eq_nil_iff]
      intro i hi
      have h0 : (List.range ops.size).countP (fun i => !listed.getD i true) = 0 := by omega
      have h1 := List.countP_eq_zero.1 h0 i hi
      simp at h1 ⊢
      intro h2; rw [h1] at h2; cases h2
    have hL := allDone listed hsz hr
    refine ⟨hr, ?_⟩
    rw [hL] at hI ⊢
    exact hend V w hI
  | succ fuel ih =>
    intro listed V w hsz hc hI
    refine ⟨fun hr => ?_, fun i hi => ?_⟩
    · have hL := allDone listed hsz hr
      rw [hL] at hI ⊢
      exact hend V w hI
    · have hi' := hi
      unfold Region.ready at hi'
      rw [List.mem_filter] at hi'
      obtain ⟨hr, hp⟩ := hi'
      have hlt : i < ops.size := by simpa using hr
      have ho : ops[i]? = some ops[i] := Array.getElem?_eq_getElem hlt
      rw [ho] at hp
      simp only [Option.map_some, Option.getD_some, Bool.and_eq_true] at hp
      obtain ⟨hp1, hp2⟩ := hp
      have hLi : listed.getD i true = false := by simpa using hp1
      have hpre : ∀ e ∈ (ops[i]).after, Region.binds .any e = true → listed.getD e.on true = true := by
        intro e he hbe
        have h1 := (Array.all_eq_true_iff_forall_mem.1 hp2) e he
        have hlte := regOk_after hok i _ ho e he hbe
        rw [hbe] at h1
        have h3 : listed.getD e.on false = listed.getD e.on true := by simp [Array.getD, show e.on < listed.size by omega]
        rw [h3] at h1; simpa using h1
      have hs := hstep i _ ho (fun j => listed.getD j true) V w hLi (fun k hk => by
        simp only [List.contains_iff_mem, List.mem_map, List.mem_filter] at hk
        obtain ⟨e, ⟨he, hbe⟩, rfl⟩ := hk
        exact hpre e (by simpa using he) hbe) hI
      refine wpOp_mono ?_ hs
      rintro a' w' ⟨v, rfl, hI'⟩
      rw [fill_put hdst i v hLi ops.size hlt]
      have hU : Upd (fun j => listed.getD j true) i = fun j => (listed.setIfInBounds i true).getD j true := by
        funext j
        unfold Upd
        by_cases c : i = j
        · subst c; simp [Array.getD]
        · have c' : ¬ j = i := fun h => c h.symm
          rw [getD_set_ne true c]
          simp [c']
      rw [hU] at hI' ⊢
      refine ih _ _ _ (by simpa using hsz) ?_ hI'
      have hcount : (List.range ops.size).countP (fun j => !(listed.setIfInBounds i true).getD j true) + 1 ≤ (List.range ops.size).countP (fun j => !listed.getD j true) := by
        have hsplit : ∀ l : List Nat, l.Nodup → i ∈ l → l.countP (fun j => !(listed.setIfInBounds i true).getD j true) + 1 = l.countP (fun j => !listed.getD j true) := by
          intro l hn hm
          induction l with
          | nil => cases hm
          | cons x l ihl =>
            rw [List.nodup_cons] at hn
            by_cases hx : x = i
            · subst hx
              have e1 : (listed.setIfInBounds x true).getD x true = true := by simp [Array.getD]
              have e2 : ∀ l : List Nat, x ∉ l → l.countP (fun j => !(listed.setIfInBounds x true).getD j true) = l.countP (fun j => !listed.getD j true) := by
                intro l hl
                apply List.countP_congr
                intro y hy
                rw [getD_set_ne true (fun h => hl (by rw [h]; exact hy))]
              rw [List.countP_cons, List.countP_cons, e2 l hn.1, e1, hLi]; simp
            · have hm2 : i ∈ l := by
                rcases List.mem_cons.1 hm with h | h
                · exact absurd h.symm hx
                · exact h
              have := ihl hn.2 hm2
              rw [List.countP_cons, List.countP_cons, getD_set_ne true (fun h => hx h.symm)]
              omega
        have := hsplit _ List.nodup_range hr
        omega
      omega

theorem region_invF {id n : Nat} (hm : P.follows .mixedOrders = true) (I : (Nat → Bool) → (Nat → Value) → World → Prop) {w0 : World} (hok : regOk ops = true)
    (h0 : I (fun i => decide (ops.size ≤ i)) (fun _ => undef) w0.drew)
    (hstep : ∀ (i : Nat) (o : Oper), ops[i]? = some o → StepF P Q ops a0 I i o)
    (hn : ops.size = n) (hend : ∀ V w, I (fun _ => true) V w → Q .normal (fill ops (fun _ => true) V a0 n) w) : (Code.region id ops true).wp P Q a0 w0 := by
  subst hn
  refine wp_region_any hm ?_
  have hL : (fun i => (Array.replicate ops.size false).getD i true) = fun i => decide (ops.size ≤ i) := by
    funext i
    by_cases c : i < ops.size
    · simp [Array.getD, c]
    · simp [Array.getD, c]; omega
  have hf : ∀ n, n ≤ ops.size → fill ops (fun i => (Array.replicate ops.size false).getD i true) (fun _ => undef) a0 n = a0 := by
    intro n
    induction n with
    | zero => intro _; rfl
    | succ n ih =>
      intro hn
      unfold fill
      rw [if_neg (by simp [Array.getD, show n < ops.size by omega]), ih (by omega)]
  have h1 := region_invF_any (a0 := a0) I hok hstep hend ops.size (Array.replicate ops.size false) (fun _ => undef) w0.drew (by simp) (by
    refine Nat.le_trans List.countP_le_length ?_
    simp) (hL ▸ h0)
  rw [hf ops.size (Nat.le_refl _)] at h1
  exact h1

/-- an operation that is wanted runs to this value and this world -/
def RunsTo (P : Program) (ops : Array Oper) (o : Oper) (F : Act) (w : World) (T : Value → World → Prop) : Prop :=
  Region.wanted o (yielded ops F.tmps) = true ∧ ∃ v w', (execOp F.eval o).run P w = .ok (.value v) w' ∧ T v w'
theorem region_tail {id n : Nat} (mb ma mz f : Nat) (hm : P.follows .mixedOrders = true) (S : World → Prop) (G A : World → Value → Prop) (vals : Nat → Value) {w0 : World} (hok : regOk ops = true) (hset : regSetT ops mz a0.tmps.size = true) (htail : tailOk ops f mb ma mz = true)
    (h0 : S w0.drew) (hn : ops.size = n) (hS : ∀ w w', S w → Below w.heap.size w w' → S w') (hG : ∀ w w' v, Below w.heap.size w w' → G w v → G w' v)
    (h : ∀ F Fz : Value → Value → Act, (∀ vb va, fill ops (fun j => j != mz) (tailV mb ma mz vals vb va) a0 n = F vb va) → (∀ vb va, fill ops (fun _ => true) (tailV mb ma mz vals vb va) a0 n = Fz vb va) →
      (∀ (i : Nat) (o : Oper), ops[i]? = some o → i ≠ mb → i ≠ ma → i ≠ mz → ∀ vb va w, S w → YieldsV P ops (fun w' => Below w.heap.size w w') o (vals i) (F vb va) w) ∧
      (∀ o : Oper, ops[mb]? = some o → ∀ vb va w, S w → RunsTo P ops o (F vb va) w fun v w' => Below w.heap.size w w' ∧ G w' v) ∧
      (∀ o : Oper, ops[ma]? = some o → ∀ vb va w, S w → G w vb → RunsTo P ops o (F vb va) w fun v w' => A w' v) ∧
      (∀ o : Oper, ops[mz]? = some o → ∀ vb va w, RunsTo P ops o (F vb va) w fun v w' => v = va ∧ w' = w) ∧
      (∀ vb va w, A w va → Q .normal (Fz vb va) w)) : (Code.region id ops true).wp P Q a0 w0 := by
  subst hn
  obtain ⟨hk, hb, ha, hz, hq⟩ := h _ _ (fun vb va => rfl) (fun vb va => rfl)
  have hdst := regOk_dst hok
  unfold tailOk at htail
  simp only [Bool.and_eq_true, decide_eq_true_eq, Bool.not_eq_true', beq_eq_false_iff_ne, ne_eq] at htail
  obtain ⟨⟨⟨⟨⟨⟨⟨t1, t2⟩, t3⟩, t4⟩, t5⟩, t6⟩, t7⟩, t8⟩ := htail
  have t8' : ∀ i, i < ops.size → i ≠ mz → waits ops f ma i = true := fun i hi hne => by
    have := List.all_eq_true.1 t8 i (by simpa using hi)
    rw [Bool.or_eq_true] at this
    rcases this with e | e
    · exact absurd (by simpa using e) hne
    · exact e
  refine region_invF (n := ops.size) hm (fun L V w => (∀ j k, j < ops.size → L j = true → (afterOf ops j).contains k = true → L k = true) ∧ (∀ j, j < ops.size → j ≠ mb → j ≠ ma → j ≠ mz → L j = true → V j = vals j) ∧ (L mz = true → L ma = true ∧ V mz = V ma) ∧ ((L ma = false ∧ S w ∧ (L mb = true → G w (V mb))) ∨ (L ma = true ∧ A w (V ma)))) hok ?_ ?_ rfl ?_
  · refine ⟨fun j k hj hL _ => by simp at hL; omega, fun j hj _ _ _ hL => by simp at hL; omega, fun hL => by simp at hL; omega, .inl ⟨by simp; omega, h0, fun hL => by simp at hL; omega⟩⟩
  · intro i o ho L V w hL hpre hI
    obtain ⟨hC, hV, hZ, hP⟩ := hI
    have hlt : i < ops.size := by
      by_cases c : i < ops.size
      · exact c
      · rw [Array.getElem?_eq_none (by omega)] at ho; cases ho
    have hVV : ∀ j, j < ops.size → L j = true → V j = tailV mb ma mz vals (V mb) (V ma) j := fun j hj hLj => by
      unfold tailV
      by_cases c1 : j = mb
      · rw [if_pos c1, c1]
      · rw [if_neg c1]
        by_cases c2 : j = ma
        · rw [if_pos c2, c2]
        · rw [if_neg c2]
          by_cases c3 : j = mz
          · rw [if_pos c3, c3]; rw [c3] at hLj; exact (hZ hLj).2
          · rw [if_neg c3]; exact hV j hj c1 c2 c3 hLj
    obtain ⟨F, hF⟩ : ∃ F, F = fill ops (fun j => j != mz) (tailV mb ma mz vals (V mb) (V ma)) a0 ops.size := ⟨_, rfl⟩
    obtain ⟨a, haa⟩ : ∃ a, a = fill ops L V a0 ops.size := ⟨_, rfl⟩
    rw [← haa]
    have hLz : L mz = false := by
      by_cases c : i = mz
      · rw [← c]; exact hL
      · cases hc : L mz with
        | false => rfl
        | true =>
          rw [waits_in hC f ma i t2 (hZ hc).1 (t8' i hlt c)] at hL
          cases hL
    unfold regSetT at hset
    have hs := List.all_eq_true.1 hset i (by simpa using hlt)
    rw [ho] at hs
    simp only [Option.map_some, Option.getD_some, Bool.and_eq_true] at hs
    obtain ⟨⟨hsel, hops⟩, hgd⟩ := hs
    have hx : execOp a.eval o = execOp F.eval o := by
      refine execOp_congr o ?_ ?_
      · intro cs b e
        rw [e] at hsel
        cases hsel
      · intro x hx
        have h1 := List.all_eq_true.1 hops x (by simpa using hx)
        rw [hF]
        cases x with
        | tmp s =>
          dsimp only at h1
          rw [Bool.and_eq_true, decide_eq_true_eq] at h1
          rw [haa]
          exact settledT_reads hdst s h1.1 h1.2 hpre hLz hVV
        | _ => rfl
    have hw : Region.wanted o (yielded ops a.tmps) = Region.wanted o (yielded ops F.tmps) := by
      unfold Region.wanted
      cases hg : o.guard with
      | none => rfl
      | some gw =>
        obtain ⟨g, want⟩ := gw
        dsimp only
        rw [yielded_at, yielded_at]
        rw [hg] at hgd
        dsimp only at hgd
        cases hds : dstAt ops g with
        | none => rfl
        | some s =>
          rw [hds] at hgd
          dsimp only at hgd ⊢
          rw [Bool.and_eq_true, decide_eq_true_eq] at hgd
          have h2 := settledT_reads hdst s hgd.1 hgd.2 hpre hLz hVV
          rw [← hF, ← haa] at h2
          have h3 : a.tmps.getD s undef = F.tmps.getD s undef := h2
          rw [h3]
    have hC' : ∀ j k, j < ops.size → Upd L i j = true → (afterOf ops j).contains k = true → Upd L i k = true := fun j k hj hU hk => by
      by_cases c : j = i
      · have e : afterOf ops i = (o.after.toList.filter (Region.binds .any)).map (·.on) := by unfold afterOf; rw [ho]
        rw [c, e] at hk
        have := hpre k hk
        unfold Upd
        rw [this]
        rfl
      · have := hC j k hj (by simpa [Upd, c] using hU) hk
        unfold Upd
        rw [this]
        rfl
    have hd : dstAt ops i = o.dst := by unfold dstAt; rw [ho]; rfl
    have hLma : i ≠ mz → L ma = false := fun hne => by
      cases hc : L ma with
      | false => rfl
      | true =>
        rw [waits_in hC f ma i t2 hc (t8' i hlt hne)] at hL
        exact hL
    have hU : ∀ j, j ≠ i → Upd L i j = L j := fun j c => by unfold Upd; simp [c]
    have hUi : Upd L i i = true := by unfold Upd; simp
    have hVi : ∀ v, updV V i v i = v := fun v => by unfold updV; simp
    have hVo : ∀ v j, j ≠ i → updV V i v j = V j := fun v j c => by unfold updV; simp [c]
    unfold wpOp
    simp only [ho]
    rw [hw, hd]
    by_cases cz : i = mz
    · -- the move of the answer
      subst cz
      have hma : L ma = true := hpre ma (by
        have e : afterOf ops i = (o.after.toList.filter (Region.binds .any)).map (·.on) := by unfold afterOf; rw [ho]
        rw [← e]; exact t7)
      obtain ⟨hwd, v, w', hr, rfl, rfl⟩ := hz o ho (V mb) (V ma) w
      rw [← hF] at hwd hr
      rw [if_pos hwd]
      refine .inl ?_
      unfold Oper.wp
      rw [hx, hr]
      rcases hP with ⟨e, _⟩ | ⟨_, hA⟩
      · rw [hma] at e; cases e
      · refine ⟨V ma, rfl, hC', fun j hj c1 c2 c3 hLj => ?_, fun _ => ⟨by rw [hU ma (Ne.symm (Ne.symm t6))]; exact hma, by rw [hVi, hVo _ ma t6]⟩, .inr ⟨by rw [hU ma t6]; exact hma, by rw [hVo _ ma t6]; exact hA⟩⟩
        rw [hVo _ j c3]
        exact hV j hj c1 c2 c3 (by rwa [hU j c3] at hLj)
    · have hma := hLma cz
      obtain ⟨hSw, hGw⟩ : S w ∧ (L mb = true → G w (V mb)) := by
        rcases hP with ⟨_, b, c⟩ | ⟨e, _⟩
        · exact ⟨b, c⟩
        · rw [hma] at e; cases e
      have hmz : L mz = false := by
        cases hc : L mz with
        | false => rfl
        | true => rw [(hZ hc).1] at hma; cases hma
      by_cases ca : i = ma
      · -- the append
        subst ca
        have hLb : L mb = true := by
          have hw2 := t8' mb t1 t5
          -- ma waits for mb, and all that it waits for is done
          have hall : ∀ (f m : Nat), m < ops.size → m ≠ i → L m = true → waits ops f m mb = true → L mb = true := fun f m hm2 _ hLm hw3 => waits_in hC f m mb hm2 hLm hw3
          cases f with
          | zero =>
            have : i = mb := by simpa [waits] using hw2
            exact absurd this.symm t4
          | succ f =>
            unfold waits at hw2
            rw [Bool.or_eq_true] at hw2
            rcases hw2 with e | e
            · exact absurd (by simpa using e) (Ne.symm t4)
            · obtain ⟨j, hj, hjw⟩ := List.any_eq_true.1 e
              have hLj : L j = true := hpre j (by
                have e : afterOf ops i = (o.after.toList.filter (Region.binds .any)).map (·.on) := by unfold afterOf; rw [ho]
                rw [← e]; simpa using hj)
              by_cases hjs : j < ops.size
              · exact waits_in hC f j mb hjs hLj hjw
              · by_cases ejm : j = mb
                · rw [← ejm]; exact hLj
                · rw [waits_out f j mb hjs ejm] at hjw; cases hjw
        obtain ⟨hwd, v, w', hr, hA⟩ := ha o ho (V mb) (V i) w hSw (hGw hLb)
        rw [← hF] at hwd hr
        rw [if_pos hwd]
        refine .inl ?_
        unfold Oper.wp
        rw [hx, hr]
        refine ⟨v, rfl, hC', fun j hj c1 c2 c3 hLj => ?_, fun hLz => ?_, .inr ⟨hUi, by rw [hVi]; exact hA⟩⟩
        · rw [hVo _ j c2]
          exact hV j hj c1 c2 c3 (by rwa [hU j c2] at hLj)
        · rw [hU mz (Ne.symm t6), hmz] at hLz; cases hLz
      · by_cases cb : i = mb
        · -- the row that is made
          subst cb
          obtain ⟨hwd, v, w', hr, hB, hGv⟩ := hb o ho (V i) (V ma) w hSw
          rw [← hF] at hwd hr
          rw [if_pos hwd]
          refine .inl ?_
          unfold Oper.wp
          rw [hx, hr]
          refine ⟨v, rfl, hC', fun j hj c1 c2 c3 hLj => ?_, fun hLz => ?_, .inl ⟨by rw [hU ma (Ne.symm ca)]; exact hma, hS w w' hSw hB, fun _ => by rw [hVi]; exact hGv⟩⟩
          · rw [hVo _ j c1]
            exact hV j hj c1 c2 c3 (by rwa [hU j c1] at hLj)
          · rw [hU mz (Ne.symm cz), hmz] at hLz; cases hLz
        · have hy := hk i o ho cb ca cz (V mb) (V ma) w hSw
          rw [← hF] at hy
          have hkeep : ∀ w', Below w.heap.size w w' → (∀ j k, j < ops.size → Upd L i j = true → (afterOf ops j).contains k = true → Upd L i k = true) ∧ (∀ j, j < ops.size → j ≠ mb → j ≠ ma → j ≠ mz → Upd L i j = true → updV V i (vals i) j = vals j) ∧ (Upd L i mz = true → Upd L i ma = true ∧ updV V i (vals i) mz = updV V i (vals i) ma) ∧ ((Upd L i ma = false ∧ S w' ∧ (Upd L i mb = true → G w' (updV V i (vals i) mb))) ∨ (Upd L i ma = true ∧ A w' (updV V i (vals i) ma))) := fun w' hB => by
            refine ⟨hC', fun j hj c1 c2 c3 hLj => ?_, fun hLz => ?_, .inl ⟨by rw [hU ma (Ne.symm ca)]; exact hma, hS w w' hSw hB, fun hLb => ?_⟩⟩
            · by_cases c : j = i
              · rw [c, hVi]
              · rw [hVo _ j c]
                exact hV j hj c1 c2 c3 (by rwa [hU j c] at hLj)
            · rw [hU mz (Ne.symm cz), hmz] at hLz; cases hLz
            · rw [hVo _ mb (Ne.symm cb)]
              rw [hU mb (Ne.symm cb)] at hLb
              exact hG w w' _ hB (hGw hLb)
          rcases hy with ⟨h1, h2, h3⟩ | ⟨h1, w', h2, h3⟩ | ⟨h1, hv, w', h2, h3⟩ | ⟨h1, fn, args, w', h2, h3⟩
          · rw [if_neg (by rw [h1]; simp)]
            exact ⟨undef, rfl, by rw [← h2]; exact hkeep w h3⟩
          · rw [if_pos h1]
            refine .inl ?_
            unfold Oper.wp
            rw [hx, h2]
            exact ⟨vals i, rfl, hkeep w' h3⟩
          · rw [if_pos h1]
            refine .inl ?_
            unfold Oper.wp
            rw [hx, h2]
            exact ⟨undef, rfl, by rw [← hv]; exact hkeep w' h3⟩
          · rw [if_pos h1]
            refine .inl ?_
            unfold Oper.wp
            rw [hx, h2, Oper.upon_enter]
            refine h3.mono ?_
            rintro e w'' ⟨rfl, hS'⟩
            exact ⟨vals i, rfl, hkeep w'' hS'⟩
  · intro V w hI
    obtain ⟨_, hV, hZ, hP⟩ := hI
    have e : fill ops (fun _ => true) V a0 ops.size = fill ops (fun _ => true) (tailV mb ma mz vals (V mb) (V ma)) a0 ops.size := by
      refine fill_congr ops.size fun j hj => ⟨rfl, fun _ => ?_⟩
      unfold tailV
      by_cases c1 : j = mb
      · rw [if_pos c1, c1]
      · rw [if_neg c1]
        by_cases c2 : j = ma
        · rw [if_pos c2, c2]
        · rw [if_neg c2]
          by_cases c3 : j = mz
          · rw [if_pos c3, c3]; exact (hZ rfl).2
          · rw [if_neg c3]; exact hV j hj c1 c2 c3 rfl
    rw [e]
    rcases hP with ⟨h1, _⟩ | ⟨_, hA⟩
    · cases h1
    · exact hq (V mb) (V ma) w hA
end
end Go.Proofs.YtbhjkddjgikaiaaGreatDoor

namespace Go.Proofs.YtbhjkddjgikaiaaGreatDoor
open Go.RowKit
set_option linter.unusedVariables false
set_option linter.unusedSimpArgs false

/-- the kinds' words, and those between, as the package holds them -/
def wordCells : Array Value := #[.string ⟨(Sc.word 0).toArray⟩, .string ⟨(Sc.link 0).toArray⟩, .string ⟨(Sc.word 1).toArray⟩, .string ⟨(Sc.link 1).toArray⟩, .string ⟨(Sc.word 2).toArray⟩, .string ⟨(Sc.link 2).toArray⟩, .string ⟨(Sc.word 3).toArray⟩, .string ⟨(Sc.link 3).toArray⟩,
  .string ⟨(Sc.word 4).toArray⟩, .string ⟨(Sc.link 4).toArray⟩, .string ⟨(Sc.word 5).toArray⟩, .string ⟨(Sc.link 5).toArray⟩, .string ⟨(Sc.word 6).toArray⟩, .string ⟨(Sc.link 6).toArray⟩, .string ⟨(Sc.word 7).toArray⟩, .string ⟨(Sc.link 7).toArray⟩]
/-- what layer 13 asks of the package variables besides -/
structure Glb13 (w : World) : Prop where
  g5 : Glb5 w
  words : w.var? Tryz.prog "transposal/script.words" = some wordCells
theorem Glb13.below {w w' : World} (h : Glb13 w) (hb : Below w.heap.size w w') : Glb13 w' := ⟨h.g5.below hb, var_below h.words hb⟩
theorem Glb13.word {w : World} (h : Glb13 w) (k : Nat) (hk : k < 8) : w.cell? ⟨1, k * 2, none⟩ = some (.string ⟨(Sc.word k).toArray⟩) ∧ w.cell? ⟨1, k * 2 + 1, none⟩ = some (.string ⟨(Sc.link k).toArray⟩) := by
  have hc := fun i => var_cell h.words (g := 1) (by kernel_rfl) i
  rcases k with _ | _ | _ | _ | _ | _ | _ | _ | k
  all_goals (first | (omega) | exact ⟨hc _, hc _⟩)
set_option maxHeartbeats 1000000 in
theorem word_any (k : Nat) (hk : k < 8) (w : World) (hM : Glb13 w) :
    Calls Tryz.prog 96 #[.int .i64 (k : Int)] w fun e w' => e = .returned (.string ⟨(Sc.word k).toArray⟩) ∧ w' = w := by
  have hc := (hM.word k hk).1
  have q0 : ¬ (k : Int) < 0 := by omega
  have q1 : ¬ (8 : Int) ≤ (k : Int) := by omega
  have i0 : (0 : Int) ≤ (k : Int) := by omega
  have i1 : (k : Int) < 8 := by omega
  generalize Sc.word k = x at *
  clear hM
  go_enter Tryz.func96, Tryz.ntmps96
  go_wp2_with fail
  go_ret
  exact ⟨rfl, rfl⟩
set_option maxHeartbeats 1000000 in
theorem link_any (k : Nat) (hk : k < 8) (w : World) (hM : Glb13 w) :
    Calls Tryz.prog 98 #[.int .i64 (k : Int)] w fun e w' => e = .returned (.string ⟨(Sc.link k).toArray⟩) ∧ w' = w := by
  have hc := (hM.word k hk).2
  have q0 : ¬ (k : Int) < 0 := by omega
  have q1 : ¬ (8 : Int) ≤ (k : Int) := by omega
  have i0 : (0 : Int) ≤ (k : Int) := by omega
  have i1 : (k : Int) < 8 := by omega
  generalize Sc.link k = x at *
  clear hM
  go_enter Tryz.func98, Tryz.ntmps98
  go_wp2_with fail
  go_ret
  exact ⟨rfl, rfl⟩
theorem unit_kind (n : Int) (w : World) : Calls Tryz.prog 32 #[.int .i64 n] w fun e w' => e = .returned (.bool (decide (n = 5) || decide (n = 6))) ∧ w' = w := by
  by_cases c1 : n = 5
  · subst c1
    go_enter Tryz.func32, Tryz.ntmps32
    go_wp2_with fail
    go_ret
    exact ⟨rfl, rfl⟩
  · by_cases c2 : n = 6
    · subst c2
      go_enter Tryz.func32, Tryz.ntmps32
      go_wp2_with fail
      go_ret
      exact ⟨rfl, rfl⟩
    · rw [decide_eq_false c1, decide_eq_false c2]
      have e1 : (n == 5) = false := beq_eq_false_iff_ne.2 c1
      have e2 : (n == 6) = false := beq_eq_false_iff_ne.2 c2
      clear c1 c2
      go_enter Tryz.func32, Tryz.ntmps32
      go_wp2_with fail
      go_ret
      exact ⟨rfl, rfl⟩
theorem snumber_any (n : Nat) (h : n ≤ 4294967295) (w : World) (hG : Glb w) :
    Calls Tryz.prog 112 #[.int .u32 (n : Int)] w fun e w' => e = .returned (.string ⟨(Sc.dec n).toArray⟩) ∧ Below w.heap.size w w' := by
  have HF := Lib.hid (formatUint_any n (by omega) w hG)
  have e1 : IntKind.u64.wrap (n : Int) = (n : Int) := by rw [IntKind.wrap_u64]; omega
  clear hG
  go_enter Tryz.func112, Tryz.ntmps112
  go_wp2_with fail
  refine HF.out.mono ?_
  rintro _ w1 ⟨rfl, hb⟩
  go_wp2
  go_ret
  exact ⟨rfl, hb⟩
theorem formatInt_any (n : Int) (h : Wd.I64 n) (w : World) (hG : Glb w) :
    Calls Tryz.prog 113 #[.int .i64 n, .int .i64 10] w fun e w' => e = .returned (.string ⟨(Lib.itoa n).toArray⟩) ∧ Below w.heap.size w w' := by
  unfold Wd.I64 at h
  have HI := Lib.hid (Any.internal_strconv_FormatInt_10 Tryz.laysM246 n h.1 h.2 w hG.pow)
  clear hG h
  go_enter Tryz.func113, Tryz.ntmps113
  go_wp2_with fail
  refine HI.out.mono ?_
  rintro _ w1 ⟨rfl, k, os, rfl⟩
  have hb := Lib.below_grow w.heap.size w (Nat.le_refl _) k os
  generalize Go.Sort.grow (w.drewN k) os = w2 at *
  go_wp2
  go_ret
  exact ⟨rfl, hb⟩
def sv (l : List (List UInt8)) : List Value := l.map fun x => .string ⟨x.toArray⟩
theorem sv_app (l m : List (List UInt8)) : sv (l ++ m) = sv l ++ sv m := by simp [sv]
/-- strings.Join over a row of one's own -/
theorem join_own (B n : Nat) (v : Value) (xs : List (List UInt8)) (sep : List UInt8) (w : World) (h : w.ownsRow B 9 1 v n (sv xs)) (hn : xs.length ≤ 1000) (hl : (Lib.join xs sep).length ≤ 10000000) :
    Calls Tryz.prog 114 #[v, .string ⟨sep.toArray⟩] w fun e w' => e = .returned (.string ⟨(Lib.join xs sep).toArray⟩) ∧ Below w.heap.size w w' := by
  obtain ⟨h1, h2⟩ := h
  have hln : xs.length = n := by simpa [sv] using h1
  have hmap : (xs.map fun x => (⟨x.toArray⟩ : ByteArray)).map (·.data.toList) = xs := by
    rw [List.map_map]
    simp [Function.comp_def]
  rcases h2 with ⟨rfl, rfl⟩ | ⟨g, cap, cur, rfl, _, hh, hc, _, hs, ht⟩
  · obtain rfl := List.length_eq_zero_iff.1 hln
    exact (Any.strings_Join_none Tryz.lays156 Tryz.Builder_Extra_156 none 0 _ w).mono fun e w' ⟨he, hw⟩ => ⟨he, hw ▸ Below.refl _ _⟩
  · have hlt : g < w.heap.size := by
      by_cases c : g < w.heap.size
      · exact c
      · rw [Array.getElem?_eq_none (by omega)] at hh; cases hh
    have hj := Any.strings_Join Tryz.lays156 Tryz.Builder_Extra_156 g 0 cap (xs.map fun x => (⟨x.toArray⟩ : ByteArray)) ⟨sep.toArray⟩ w (fun j x hx => by
      rw [Nat.zero_add, cell_of_row w g j cur _ _ hh]
      have e1 : (sv xs)[j]? = some (.string x) := by
        unfold sv
        rw [List.getElem?_map] at hx ⊢
        cases hxx : xs[j]? with
        | none => rw [hxx] at hx; cases hx
        | some y => rw [hxx] at hx; simp only [Option.map_some, Option.some.injEq] at hx ⊢; rw [hx]
      have hjl : j < n := by
        rw [← hln]
        by_cases c : j < xs.length
        · exact c
        · unfold sv at e1; rw [List.getElem?_map, List.getElem?_eq_none (by omega)] at e1; cases e1
      rw [← ht, Nat.mul_one, List.getElem?_take, if_pos hjl] at e1
      simpa using e1) hlt (by simp; omega) (by simp; omega) (by rw [hmap]; simpa using Nat.le_trans hl (by omega))
    rw [hmap, List.length_map, hln, show (⟨sep.toArray⟩ : ByteArray).data.toList = sep by simp] at hj
    exact hj
end Go.Proofs.YtbhjkddjgikaiaaGreatDoor

namespace Go.Proofs.YtbhjkddjgikaiaaGreatDoor
open Go.ChangeShapes Go.WideShapes Go.ChangeAt Go.RowKit
set_option linter.unusedVariables false
set_option linter.unusedSimpArgs false

/-- an array of strings that reads as these holds them, cell for cell -/
theorem cells_of_strs {H : Type} {enc : TypeId × Value → H} {P : Program} {w : World} {base : Nat} {sp : Nat → Bool} {held : Bool} {fuel : Nat} {t e : TypeId} {n : Nat} {cs : List Value} {ss : List (List UInt8)} {p : List MemPlace}
    (ht : P.underlying t = some (.array n e)) (he : P.underlying e = some .string) (hce : P.cellsOf e = 1) (hct : P.cellsOf t = n)
    (h : DataW.trod enc P w base sp held fuel t cs = some (.agg (ss.map fun s => .lit (.string s)), p)) : cs = ss.map fun s => Value.string ⟨s.toArray⟩ := by
  cases fuel with
  | zero => simp [DataW.trod] at h
  | succ fuel =>
    simp only [DataW.trod, ht, hce, hct, Nat.mul_one] at h
    split at h
    · rename_i hl
      obtain ⟨xs, hm, hx⟩ := Option.map_eq_some_iff.1 h
      have hxs : xs.map (·.1) = ss.map fun s => (DataW.lit (.string s) : DataW H) := by
        have := congrArg Prod.fst hx
        simpa using this
      have hxl : xs.length = n := by simpa using Lib.mapM_length hm
      have hzl : ss.length = n := by
        have := congrArg List.length hxs
        simp at this
        omega
      apply List.ext_getElem?
      intro i
      by_cases hi : i < n
      · obtain ⟨b, hb, hf⟩ := Lib.mapM_at hm i i (by simp [hi])
        obtain ⟨z, hc, rfl, _⟩ := DataW.trod_string he hf
        have h1 : cs[i]? = some (.string z) := by
          have := congrArg (·[0]?) hc
          simpa [List.getElem?_take, List.getElem?_drop] using this
        have h2 : (xs.map (·.1))[i]? = some (DataW.lit (.string z.data.toList) : DataW H) := by simp [hb]
        rw [hxs] at h2
        simp only [List.getElem?_map, Option.map_eq_some_iff, DataW.lit.injEq, Lit.string.injEq] at h2
        obtain ⟨z', hz', e2⟩ := h2
        rw [h1, List.getElem?_map, hz', e2]
        simp
      · rw [List.getElem?_eq_none (by omega), List.getElem?_eq_none (by simp; omega)]
    · cases h
/-- an array of arrays of two strings -/
theorem cells_of_pairs {H : Type} {enc : TypeId × Value → H} {P : Program} {w : World} {base : Nat} {sp : Nat → Bool} {held : Bool} {fuel : Nat} {t u e : TypeId} {n : Nat} {cs : List Value} {ss : List (List UInt8 × List UInt8)} {p : List MemPlace}
    (ht : P.underlying t = some (.array n u)) (hu : P.underlying u = some (.array 2 e)) (he : P.underlying e = some .string) (hce : P.cellsOf e = 1) (hcu : P.cellsOf u = 2) (hct : P.cellsOf t = n * 2)
    (h : DataW.trod enc P w base sp held fuel t cs = some (.agg (ss.map fun s => .agg [.lit (.string s.1), .lit (.string s.2)]), p)) : cs = ss.flatMap fun s => [Value.string ⟨s.1.toArray⟩, Value.string ⟨s.2.toArray⟩] := by
  cases fuel with
  | zero => simp [DataW.trod] at h
  | succ fuel =>
    simp only [DataW.trod, ht, hcu, hct] at h
    split at h
    · rename_i hl
      obtain ⟨xs, hm, hx⟩ := Option.map_eq_some_iff.1 h
      have hxs : xs.map (·.1) = ss.map fun s => (DataW.agg [.lit (.string s.1), .lit (.string s.2)] : DataW H) := by
        have := congrArg Prod.fst hx
        simpa using this
      have hxl : xs.length = n := by simpa using Lib.mapM_length hm
      have hzl : ss.length = n := by
        have := congrArg List.length hxs
        simp at this
        omega
      have hpiece : ∀ i (hi : i < n), (cs.drop (i * 2)).take 2 = [Value.string ⟨(ss[i]'(by omega)).1.toArray⟩, Value.string ⟨(ss[i]'(by omega)).2.toArray⟩] := fun i hi => by
        obtain ⟨b, hb, hf⟩ := Lib.mapM_at hm i i (by simp [hi])
        have h2 : (xs.map (·.1))[i]? = some b.1 := by simp [hb]
        rw [hxs, List.getElem?_map, List.getElem?_eq_getElem (by omega)] at h2
        simp only [Option.map_some, Option.some.injEq] at h2
        obtain ⟨b1, b2⟩ := b
        subst h2
        exact cells_of_strs (ss := [(ss[i]'(by omega)).1, (ss[i]'(by omega)).2]) hu he hce hcu hf
      apply List.ext_getElem?
      intro j
      have key : ∀ (l : List (List UInt8 × List UInt8)) (j : Nat), j < l.length * 2 → (l.flatMap fun s => [Value.string ⟨s.1.toArray⟩, Value.string ⟨s.2.toArray⟩])[j]? = [Value.string ⟨(l.getD (j / 2) ([], [])).1.toArray⟩, Value.string ⟨(l.getD (j / 2) ([], [])).2.toArray⟩][j % 2]? := fun l => by
        induction l with
        | nil => intro j h; simp at h
        | cons s l ih =>
          intro j hj
          rw [List.flatMap_cons]
          rcases j with _ | _ | j
          · rfl
          · rfl
          · rw [List.getElem?_append_right (by simp), show j + 1 + 1 - [Value.string ⟨s.1.toArray⟩, Value.string ⟨s.2.toArray⟩].length = j by simp, ih j (by simp at hj; omega), show (j + 1 + 1) / 2 = j / 2 + 1 by omega, show (j + 1 + 1) % 2 = j % 2 by omega, List.getD_cons_succ]
      by_cases hj : j < n * 2
      · have hp := hpiece (j / 2) (by omega)
        have hgd : ss.getD (j / 2) ([], []) = ss[j / 2]'(by omega) := by rw [List.getD_eq_getElem?_getD, List.getElem?_eq_getElem (by omega)]; rfl
        rw [key ss j (by omega), hgd]
        have h1 := congrArg (·[j % 2]?) hp
        simp only [List.getElem?_take, List.getElem?_drop] at h1
        rw [if_pos (by omega), show j / 2 * 2 + j % 2 = j by omega] at h1
        exact h1
      · have hfl : ∀ l : List (List UInt8 × List UInt8), (l.flatMap fun s => [Value.string ⟨s.1.toArray⟩, Value.string ⟨s.2.toArray⟩]).length = l.length * 2 := fun l => by
          induction l with
          | nil => rfl
          | cons s l ih => rw [List.flatMap_cons, List.length_append, ih, List.length_cons]; simp; omega
        rw [List.getElem?_eq_none (by omega), List.getElem?_eq_none (by rw [hfl]; omega)]
    · cases h
noncomputable def laidL13 : List (String × DataW Unit) := laidL5 ++ [("transposal/script.words", Rows.laid_transposal_script_words)]
theorem words_of_head {W : World} (h : laidMet Tryz.prog [("transposal/script.words", Rows.laid_transposal_script_words)] W) : W.var? Tryz.prog "transposal/script.words" = some wordCells := by
  obtain ⟨ps, ⟨g', t', cs, fuel, p, q, hg', ht', hvar, hd, _, _⟩, _⟩ := h
  obtain rfl := Option.some.inj ((show Tryz.prog.globalNamed "transposal/script.words" = some 1 by kernel_rfl).symm.trans hg')
  obtain rfl := Option.some.inj ((show (Tryz.prog.globals[1]?).map (·.type) = some 224 by kernel_rfl).symm.trans ht')
  have e := cells_of_pairs (ss := (List.range 8).map fun k => (Sc.word k, Sc.link k)) Tryz.underlying224 Tryz.underlying223 Tryz.underlying9 (by kernel_rfl) (by kernel_rfl) (by kernel_rfl) hd
  have e2 : cs = wordCells := Array.toList_inj.1 (e.trans rfl)
  rw [hvar, e2]
theorem glb13_of {W : World} (h : laidMetH Tryz.prog laidL13 W) (hs : W.ShapedOpen Tryz.prog) : Glb13 W := by
  have h1 := h.filter (fun x => x.1 != "transposal/script.words")
  have e : laidL13.filter (fun x => x.1 != "transposal/script.words") = laidL5 := by kernel_rfl
  rw [e] at h1
  refine ⟨glb5_of h1 hs, ?_⟩
  have h2 := h.filter (fun x => x.1 == "transposal/script.words")
  have e2 : laidL13.filter (fun x => x.1 == "transposal/script.words") = [("transposal/script.words", Rows.laid_transposal_script_words)] := by kernel_rfl
  rw [e2] at h2
  exact words_of_head h2
theorem door_met13 (os : Os) (args : Array Value) : laidMetH Tryz.prog laidL13 ((wd os).forCall (fun _ _ => 0) ⟨#[], args, []⟩).memory :=
  laidMetH_of_parts3 (fuel := 8) (laidMet_of_run' 8 (by kernel_rfl) (by kernel_rfl)) (by kernel_rfl) (by kernel_rfl)
end Go.Proofs.YtbhjkddjgikaiaaGreatDoor
