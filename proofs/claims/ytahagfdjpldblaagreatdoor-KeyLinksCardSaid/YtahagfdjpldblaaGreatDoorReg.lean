/-
  A region that draws its order, by an invariant: one step for each operation, whatever was done before it (over any program).
-/
import Derived.Test.YtahagfdjpldblaaGreatDoorArr
import Derived.Orders
namespace Go.Proofs.YtahagfdjpldblaaGreatDoor
open Go.RowKit
set_option linter.unusedVariables false
set_option linter.unusedSimpArgs false

def dstAt (ops : Array Oper) (i : Nat) : Option Tmp := (ops[i]?).bind (·.dst)
def Upd (L : Nat → Bool) (i : Nat) : Nat → Bool := fun j => L j || j == i
def updV (V : Nat → Value) (i : Nat) (v : Value) : Nat → Value := fun j => if j = i then v else V j
/-- the frame when the operations in L have been done and have given V -/
def fill (ops : Array Oper) (L : Nat → Bool) (V : Nat → Value) (a0 : Act) : Nat → Act
  | 0 => a0
  | n + 1 => if L n then (fill ops L V a0 n).put (dstAt ops n) (V n) else fill ops L V a0 n

theorem fill_congr {ops : Array Oper} {L L' : Nat → Bool} {V V' : Nat → Value} {a0 : Act} : ∀ n, (∀ j, j < n → L j = L' j ∧ (L j = true → V j = V' j)) → fill ops L V a0 n = fill ops L' V' a0 n
  | 0, _ => rfl
  | n + 1, h => by
    have ih := fill_congr (ops := ops) (a0 := a0) n (fun j hj => h j (by omega))
    obtain ⟨h1, h2⟩ := h n (by omega)
    unfold fill
    rw [← h1, ih]
    by_cases e : L n = true
    · rw [if_pos e, if_pos e, h2 e]
    · rw [if_neg e, if_neg e]

theorem fill_put {ops : Array Oper} {L : Nat → Bool} {V : Nat → Value} {a0 : Act} (hd : ∀ i j s, dstAt ops i = some s → dstAt ops j = some s → i = j) (i : Nat) (v : Value) (hL : L i = false) :
    ∀ n, i < n → (fill ops L V a0 n).put (dstAt ops i) v = fill ops (Upd L i) (updV V i v) a0 n
  | 0, h => by omega
  | n + 1, h => by
    by_cases e : i = n
    · subst e
      have h1 : fill ops (Upd L i) (updV V i v) a0 (i + 1) = (fill ops (Upd L i) (updV V i v) a0 i).put (dstAt ops i) v := by
        rw [fill, if_pos (by simp [Upd])]; simp [updV]
      have h2 : fill ops L V a0 (i + 1) = fill ops L V a0 i := by rw [fill, if_neg (by simp [hL])]
      rw [h1, h2]
      congr 1
      exact fill_congr i (fun j hj => ⟨by simp [Upd]; intro; omega, fun _ => by simp [updV]; intro; omega⟩)
    · have ih := fill_put (a0 := a0) (V := V) hd i v hL n (by omega)
      have e1 : Upd L i n = L n := by simp [Upd]; intro; omega
      have e2 : updV V i v n = V n := by simp [updV]; intro; omega
      unfold fill
      rw [e1, e2, ← ih]
      by_cases c : L n = true
      · rw [if_pos c, if_pos c]
        exact Act.put_comm _ _ _ (fun d h1 h2 => e (hd i n d h2 h1))
      · rw [if_neg c, if_neg c]

theorem put_size (a : Act) (d : Option Tmp) (v : Value) : (a.put d v).tmps.size = a.tmps.size := by cases d <;> simp [Act.put]
theorem fill_size {ops : Array Oper} {L : Nat → Bool} {V : Nat → Value} {a0 : Act} : ∀ n, (fill ops L V a0 n).tmps.size = a0.tmps.size
  | 0 => rfl
  | n + 1 => by
    unfold fill
    by_cases c : L n = true
    · rw [if_pos c, put_size, fill_size n]
    · rw [if_neg c, fill_size n]
theorem put_defers' (a : Act) (d : Option Tmp) (v : Value) : (a.put d v).defers = a.defers := by cases d <;> rfl
theorem fill_defers {ops : Array Oper} {L : Nat → Bool} {V : Nat → Value} {a0 : Act} : ∀ n, (fill ops L V a0 n).defers = a0.defers
  | 0 => rfl
  | n + 1 => by
    unfold fill
    by_cases c : L n = true
    · rw [if_pos c, put_defers', fill_defers n]
    · rw [if_neg c, fill_defers n]
theorem put_get (a : Act) (d : Option Tmp) (v : Value) (s : Nat) (hs : s < a.tmps.size) : (a.put d v).tmps.getD s undef = if d = some s then v else a.tmps.getD s undef := by
  cases d with
  | none => rfl
  | some t =>
    by_cases e : t = s
    · subst e
      simp [Act.put, hs]
    · have e2 : ¬ some t = some s := fun h => e (by injection h)
      rw [if_neg e2]
      simp [Act.put, Array.getElem?_setIfInBounds_ne e]
/-- a slot that no operation of the region writes -/
theorem fill_old {ops : Array Oper} {L : Nat → Bool} {V : Nat → Value} {a0 : Act} (s : Nat) (hs : s < a0.tmps.size) : ∀ n, (∀ j, j < n → dstAt ops j ≠ some s) → (fill ops L V a0 n).tmps.getD s undef = a0.tmps.getD s undef
  | 0, _ => rfl
  | n + 1, h => by
    have ih := fill_old (ops := ops) (L := L) (V := V) s hs n (fun j hj => h j (by omega))
    unfold fill
    by_cases c : L n = true
    · rw [if_pos c, put_get _ _ _ _ (by rw [fill_size]; exact hs), if_neg (h n (by omega)), ih]
    · rw [if_neg c, ih]
/-- the slot of an operation that has been done -/
theorem fill_hit {ops : Array Oper} {L : Nat → Bool} {V : Nat → Value} {a0 : Act} (hd : ∀ i j s, dstAt ops i = some s → dstAt ops j = some s → i = j) (i s : Nat) (hs : s < a0.tmps.size) (hL : L i = true) (hi : dstAt ops i = some s) :
    ∀ n, i < n → (fill ops L V a0 n).tmps.getD s undef = V i
  | 0, h => by omega
  | n + 1, h => by
    unfold fill
    by_cases e : i = n
    · subst e
      rw [if_pos hL, put_get _ _ _ _ (by rw [fill_size]; exact hs), if_pos hi]
    · have ih := fill_hit (V := V) hd i s hs hL hi n (by omega)
      by_cases c : L n = true
      · rw [if_pos c, put_get _ _ _ _ (by rw [fill_size]; exact hs), if_neg (fun h2 => e (hd i n s hi h2)), ih]
      · rw [if_neg c, ih]

/-- no two operations write one slot; an operation waits for earlier ones alone -/
def regOk (ops : Array Oper) : Bool :=
  (List.range ops.size).all fun i => ((ops[i]?).map fun o => o.after.all fun e => !(Region.binds .any e) || decide (e.on < i)).getD true &&
    (List.range i).all fun j => match dstAt ops i, dstAt ops j with | some s, some t => s != t | _, _ => true
theorem regOk_dst {ops : Array Oper} (h : regOk ops = true) : ∀ i j s, dstAt ops i = some s → dstAt ops j = some s → i = j := by
  have key : ∀ i j s, j < i → dstAt ops i = some s → dstAt ops j = some s → False := by
    intro i j s hji hi hj
    have hlt : i < ops.size := by
      by_cases c : i < ops.size
      · exact c
      · unfold dstAt at hi; rw [Array.getElem?_eq_none (by omega)] at hi; cases hi
    unfold regOk at h
    have h1 := List.all_eq_true.1 h i (by simpa using hlt)
    rw [Bool.and_eq_true] at h1
    have h2 := List.all_eq_true.1 h1.2 j (by simpa using hji)
    rw [hi, hj] at h2
    simp at h2
  intro i j s hi hj
  rcases Nat.lt_trichotomy i j with c | c | c
  · exact (key j i s c hj hi).elim
  · exact c
  · exact (key i j s c hi hj).elim
theorem regOk_after {ops : Array Oper} (h : regOk ops = true) (i : Nat) (o : Oper) (ho : ops[i]? = some o) (e : Edge) (he : e ∈ o.after) (hbe : Region.binds .any e = true) : e.on < i := by
  have hlt : i < ops.size := by
    by_cases c : i < ops.size
    · exact c
    · rw [Array.getElem?_eq_none (by omega)] at ho; cases ho
  unfold regOk at h
  have h1 := List.all_eq_true.1 h i (by simpa using hlt)
  rw [Bool.and_eq_true, ho] at h1
  have h2 := h1.1
  simp only [Option.map_some, Option.getD_some] at h2
  have h3 := (Array.all_eq_true_iff_forall_mem.1 h2) e he
  rw [hbe] at h3
  simpa using h3

section
variable {P : Program} {Q : Exit → Act → World → Prop} {ops : Array Oper} {a0 : Act}
/-- what each step owes -/
def StepOk (P : Program) (Q : Exit → Act → World → Prop) (ops : Array Oper) (a0 : Act) (I : (Nat → Bool) → (Nat → Value) → World → Prop) (i : Nat) (o : Oper) : Prop :=
  ∀ (L : Nat → Bool) (V : Nat → Value) (w : World), L i = false → (∀ k, ((o.after.toList.filter (Region.binds .any)).map (·.on)).contains k = true → L k = true) → I L V w →
    ∀ a : Act, a.defers = a0.defers → (∀ j s, L j = true → dstAt ops j = some s → s < a0.tmps.size → j < ops.size → a.eval (.tmp s) = V j) →
      (∀ s, s < a0.tmps.size → (∀ j, j < ops.size → dstAt ops j ≠ some s) → a.eval (.tmp s) = a0.eval (.tmp s)) →
      wpOp P ops Q i (fun a' w' => ∃ v, a' = a.put (dstAt ops i) v ∧ I (Upd L i) (updV V i v) w') a w

theorem region_inv_any (I : (Nat → Bool) → (Nat → Value) → World → Prop) (hok : regOk ops = true)
    (hstep : ∀ (i : Nat) (o : Oper), ops[i]? = some o → StepOk P Q ops a0 I i o)
    (hend : ∀ V w, I (fun _ => true) V w → Q .normal (fill ops (fun _ => true) V a0 ops.size) w) :
    ∀ fuel (listed : Array Bool) V w, listed.size = ops.size → ((List.range ops.size).countP fun i => !listed.getD i true) ≤ fuel → I (fun i => listed.getD i true) V w →
      wpAny P .any ops Q fuel listed (fill ops (fun i => listed.getD i true) V a0 ops.size) w := by
  have hdst := regOk_dst hok
  have allDone : ∀ (listed : Array Bool), listed.size = ops.size → Region.ready .any ops listed = [] → (fun i => listed.getD i true) = fun _ => true := by
    intro listed hsz hr
    funext i
    have main : ∀ n i, i < n → listed.getD i true = true := by
      intro n
      induction n with
      | zero => intro i h; omega
      | succ n ih =>
        intro i hi
        by_cases c : listed.getD i true = true
        · exact c
        · exfalso
          have hlt : i < ops.size := by
            by_cases c2 : i < ops.size
            · exact c2
            · exact absurd (by simp [Array.getD, show ¬ i < listed.size by omega]) c
          have hm : i ∈ Region.ready .any ops listed := by
            unfold Region.ready
            rw [List.mem_filter]
            refine ⟨by simpa using hlt, ?_⟩
            have ho : ops[i]? = some ops[i] := Array.getElem?_eq_getElem hlt
            rw [ho]
            simp only [Option.map_some, Option.getD_some, Bool.and_eq_true]
            refine ⟨by simpa using c, ?_⟩
            rw [Array.all_eq_true_iff_forall_mem]
            intro e he
            by_cases hbe : Region.binds .any e = true
            · have hlte := regOk_after hok i _ ho e he hbe
              have h2 := ih e.on (by omega)
              have h3 : listed.getD e.on false = listed.getD e.on true := by simp [Array.getD, show e.on < listed.size by omega]
              rw [h3, h2]; simp
            · simp [hbe]
          rw [hr] at hm; cases hm
    exact main (i + 1) i (by omega)
  intro fuel
  induction fuel with
  | zero =>
    intro listed V w hsz hc hI
    have hr : Region.ready .any ops listed = [] := by
      unfold Region.ready
      rw [List.filter_eq_nil_iff]
      intro i hi
      have h0 : (List.range ops.size).countP (fun i => !listed.getD i true) = 0 := by omega
      have h1 := List.countP_eq_zero.1 h0 i hi
      simp at h1 ⊢
      intro h2; rw [h1] at h2; cases h2
    have hL := allDone listed hsz hr
    refine ⟨hr, ?_⟩
    rw [hL] at hI ⊢
    exact hend V w hI
  | succ fuel ih =>
    intro listed V w hsz hc hI
    refine ⟨fun hr => ?_, fun i hi => ?_⟩
    · have hL := allDone listed hsz hr
      rw [hL] at hI ⊢
      exact hend V w hI
    · have hi' := hi
      unfold Region.ready at hi'
      rw [List.mem_filter] at hi'
      obtain ⟨hr, hp⟩ := hi'
      have hlt : i < ops.size := by simpa using hr
      have ho : ops[i]? = some ops[i] := Array.getElem?_eq_getElem hlt
      rw [ho] at hp
      simp only [Option.map_some, Option.getD_some, Bool.and_eq_true] at hp
      obtain ⟨hp1, hp2⟩ := hp
      have hLi : listed.getD i true = false := by simpa using hp1
      have hpre : ∀ e ∈ (ops[i]).after, Region.binds .any e = true → listed.getD e.on true = true := by
        intro e he hbe
        have h1 := (Array.all_eq_true_iff_forall_mem.1 hp2) e he
        have hlte := regOk_after hok i _ ho e he hbe
        rw [hbe] at h1
        have h3 : listed.getD e.on false = listed.getD e.on true := by simp [Array.getD, show e.on < listed.size by omega]
        rw [h3] at h1; simpa using h1
      have hs := hstep i _ ho (fun j => listed.getD j true) V w hLi (fun k hk => by
        simp only [List.contains_iff_mem, List.mem_map, List.mem_filter] at hk
        obtain ⟨e, ⟨he, hbe⟩, rfl⟩ := hk
        exact hpre e (by simpa using he) hbe) hI (fill ops (fun j => listed.getD j true) V a0 ops.size) (fill_defers _)
        (fun j s hj hd hs hjn => fill_hit hdst j s hs hj hd ops.size hjn)
        (fun s hs hno => fill_old s hs ops.size hno)
      refine wpOp_mono ?_ hs
      rintro a' w' ⟨v, rfl, hI'⟩
      rw [fill_put hdst i v hLi ops.size hlt]
      have hU : Upd (fun j => listed.getD j true) i = fun j => (listed.setIfInBounds i true).getD j true := by
        funext j
        unfold Upd
        by_cases c : i = j
        · subst c; simp [Array.getD]
        · have c' : ¬ j = i := fun h => c h.symm
          rw [getD_set_ne true c]
          simp [c']
      rw [hU] at hI' ⊢
      refine ih _ _ _ (by simpa using hsz) ?_ hI'
      have hcount : (List.range ops.size).countP (fun j => !(listed.setIfInBounds i true).getD j true) + 1 ≤ (List.range ops.size).countP (fun j => !listed.getD j true) := by
        have hsplit : ∀ l : List Nat, l.Nodup → i ∈ l → l.countP (fun j => !(listed.setIfInBounds i true).getD j true) + 1 = l.countP (fun j => !listed.getD j true) := by
          intro l hn hm
          induction l with
          | nil => cases hm
          | cons x l ihl =>
            rw [List.nodup_cons] at hn
            by_cases hx : x = i
            · subst hx
              have e1 : (listed.setIfInBounds x true).getD x true = true := by simp [Array.getD]
              have e2 : ∀ l : List Nat, x ∉ l → l.countP (fun j => !(listed.setIfInBounds x true).getD j true) = l.countP (fun j => !listed.getD j true) := by
                intro l hl
                apply List.countP_congr
                intro y hy
                rw [getD_set_ne true (fun h => hl (by rw [h]; exact hy))]
              rw [List.countP_cons, List.countP_cons, e2 l hn.1, e1, hLi]; simp
            · have hm2 : i ∈ l := by
                rcases List.mem_cons.1 hm with h | h
                · exact absurd h.symm hx
                · exact h
              have := ihl hn.2 hm2
              rw [List.countP_cons, List.countP_cons, getD_set_ne true (fun h => hx h.symm)]
              omega
        have := hsplit _ List.nodup_range hr
        omega
      omega

theorem region_inv {id n : Nat} (hm : P.follows .mixedOrders = true) (I : (Nat → Bool) → (Nat → Value) → World → Prop) {w0 : World} (hok : regOk ops = true)
    (h0 : I (fun i => decide (ops.size ≤ i)) (fun _ => undef) w0.drew)
    (hstep : ∀ (i : Nat) (o : Oper), ops[i]? = some o → StepOk P Q ops a0 I i o)
    (hn : ops.size = n) (hend : ∀ V w, I (fun _ => true) V w → Q .normal (fill ops (fun _ => true) V a0 n) w) : (Code.region id ops true).wp P Q a0 w0 := by
  subst hn
  refine wp_region_any hm ?_
  have hL : (fun i => (Array.replicate ops.size false).getD i true) = fun i => decide (ops.size ≤ i) := by
    funext i
    by_cases c : i < ops.size
    · simp [Array.getD, c]
    · simp [Array.getD, c]; omega
  have hf : ∀ n, n ≤ ops.size → fill ops (fun i => (Array.replicate ops.size false).getD i true) (fun _ => undef) a0 n = a0 := by
    intro n
    induction n with
    | zero => intro _; rfl
    | succ n ih =>
      intro hn
      unfold fill
      rw [if_neg (by simp [Array.getD, show n < ops.size by omega]), ih (by omega)]
  have h1 := region_inv_any (a0 := a0) I hok hstep hend ops.size (Array.replicate ops.size false) (fun _ => undef) w0.drew (by simp) (by
    refine Nat.le_trans List.countP_le_length ?_
    simp) (hL ▸ h0)
  rw [hf ops.size (Nat.le_refl _)] at h1
  exact h1

theorem st_wp {i : Nat} {o : Oper} {a : Act} {w : World} {L : Nat → Bool} {V : Nat → Value} {I : (Nat → Bool) → (Nat → Value) → World → Prop} (ho : ops[i]? = some o) (hw : Region.wanted o (yielded ops a.tmps) = true)
    (h : o.wp P a w (fun a' w' => ∃ v, a' = a.put o.dst v ∧ I (Upd L i) (updV V i v) w') Q) : wpOp P ops Q i (fun a' w' => ∃ v, a' = a.put (dstAt ops i) v ∧ I (Upd L i) (updV V i v) w') a w := by
  unfold wpOp
  simp only [ho]
  rw [if_pos hw]
  have e : dstAt ops i = o.dst := by unfold dstAt; rw [ho]; rfl
  rw [e]
  exact .inl h
theorem st_load {i : Nat} {o : Oper} {a : Act} {w : World} {L : Nat → Bool} {V : Nat → Value} {I : (Nat → Bool) → (Nat → Value) → World → Prop} (ho : ops[i]? = some o) (hw : Region.wanted o (yielded ops a.tmps) = true)
    (T : TypeId) (x : Operand) (hop : o.op = .load T x) (g : Nat) (hx : a.eval x = .pointer (some ⟨g, 0, none⟩)) {cs : Array Value} {t : TypeId} (R : Row w g cs t)
    (d : TypeDesc) (hu : P.underlying T = some d) (hd : (match d with | .struct _ | .array _ _ => true | _ => false) = true) (hi : (P.info? T).map (·.size) = some cs.size)
    (h : I (Upd L i) (updV V i (.agg cs)) w) : wpOp P ops Q i (fun a' w' => ∃ v, a' = a.put (dstAt ops i) v ∧ I (Upd L i) (updV V i v) w') a w :=
  st_wp ho hw (wp_load_row T x hop g hx t cs (0, 0) d R hu hd hi ⟨_, rfl, h⟩)
theorem st_store {i : Nat} {o : Oper} {a : Act} {w : World} {L : Nat → Bool} {V : Nat → Value} {I : (Nat → Bool) → (Nat → Value) → World → Prop} (ho : ops[i]? = some o) (hw : Region.wanted o (yielded ops a.tmps) = true)
    (T : TypeId) (x y : Operand) (hop : o.op = .store T x y) (g : Nat) (cells : Array Value) (hx : a.eval x = .pointer (some ⟨g, 0, none⟩)) (hy : a.eval y = .agg cells)
    {t : TypeId} {old : Array Value} (R : Row w g old t) (hi : (P.info? T).map (·.size) = some cells.size) (hold : old.size = cells.size) (h1 : cells.all (·.oneCell') = true)
    (h : ∀ w1, Row w1 g cells t → Stored w g w1 → I (Upd L i) (updV V i undef) w1) : wpOp P ops Q i (fun a' w' => ∃ v, a' = a.put (dstAt ops i) v ∧ I (Upd L i) (updV V i v) w') a w :=
  st_wp ho hw (wp_store_row T x y hop g cells hx hy t old R hi hold h1 ⟨undef, rfl, h _ (setRow_heap w g old cells t _ R) (stored_setRow w g cells)⟩)
theorem st_alloc {i : Nat} {o : Oper} {a : Act} {w : World} {L : Nat → Bool} {V : Nat → Value} {I : (Nat → Bool) → (Nat → Value) → World → Prop} (ho : ops[i]? = some o) (hw : Region.wanted o (yielded ops a.tmps) = true)
    (T : TypeId) (hop : o.op = .alloc T) (cs : Array Value) (hz : ∀ w : World, (zeroValue T).run P w = .ok (.agg cs) w)
    (h : ∀ g w1, w.heap.size ≤ g → Row w1 g cs T → Below w.heap.size w w1 → I (Upd L i) (updV V i (.pointer (some ⟨g, 0, none⟩))) w1) : wpOp P ops Q i (fun a' w' => ∃ v, a' = a.put (dstAt ops i) v ∧ I (Upd L i) (updV V i v) w') a w := by
  refine st_wp ho hw ?_
  unfold Oper.wp execOp
  simp only [hop, Instr.alloc, Sem.run_bind, hz, Result.andThen_ok]
  exact ⟨_, rfl, h w.heap.size (w.alloc (.cells cs T)) (Nat.le_refl _) (Row.new w cs T) ((Below.refl _ _).alloc (Nat.le_refl _) _)⟩
theorem st_val {i : Nat} {o : Oper} {a : Act} {w w1 : World} {L : Nat → Bool} {V : Nat → Value} {I : (Nat → Bool) → (Nat → Value) → World → Prop} {v : Value} (ho : ops[i]? = some o) (hw : Region.wanted o (yielded ops a.tmps) = true)
    (hr : (execOp a.eval o).run P w = .ok (.value v) w1) (h : I (Upd L i) (updV V i v) w1) : wpOp P ops Q i (fun a' w' => ∃ v, a' = a.put (dstAt ops i) v ∧ I (Upd L i) (updV V i v) w') a w := by
  unfold wpOp
  simp only [ho]
  rw [if_pos hw]
  refine .inl ?_
  unfold Oper.wp
  rw [hr]
  exact ⟨v, by unfold dstAt; rw [ho]; rfl, h⟩
theorem st_skip {i : Nat} {o : Oper} {a : Act} {w w1 : World} {L : Nat → Bool} {V : Nat → Value} {I : (Nat → Bool) → (Nat → Value) → World → Prop} (ho : ops[i]? = some o) (hw : Region.wanted o (yielded ops a.tmps) = true)
    (hr : (execOp a.eval o).run P w = .ok .skip w1) (h : I (Upd L i) (updV V i undef) w1) : wpOp P ops Q i (fun a' w' => ∃ v, a' = a.put (dstAt ops i) v ∧ I (Upd L i) (updV V i v) w') a w := by
  unfold wpOp
  simp only [ho]
  rw [if_pos hw]
  refine .inl ?_
  unfold Oper.wp
  rw [hr]
  exact ⟨undef, by unfold dstAt; rw [ho]; rfl, h⟩
theorem st_call {i : Nat} {o : Oper} {a : Act} {w : World} {L : Nat → Bool} {V : Nat → Value} {I : (Nat → Bool) → (Nat → Value) → World → Prop} (ho : ops[i]? = some o) (hw : Region.wanted o (yielded ops a.tmps) = true)
    {f : FuncId} {fn : Func} {as : Array Operand} {ts : Array TypeId} (hop : o.op = .call { callee := .value (.func f), args := as, argTypes := ts }) (hf : P.funcs[f]? = some fn) (hname : (fn.name == "runtime.NumGoroutine") = false) (hb : fn.body.isSome = true)
    (args : Array Value) (hargs : as.map a.eval = args) (h : Calls P f args w fun e w' => ∃ v, e = .returned v ∧ I (Upd L i) (updV V i v) w') : wpOp P ops Q i (fun a' w' => ∃ v, a' = a.put (dstAt ops i) v ∧ I (Upd L i) (updV V i v) w') a w := by
  unfold wpOp
  simp only [ho]
  rw [if_pos hw]
  refine .inl ?_
  have he : (callFunc f args).run P w = .ok (.enter f args) w := by
    have h1 : fn.name ≠ "runtime.NumGoroutine" := by simpa using hname
    obtain ⟨c, hc⟩ := Option.isSome_iff_exists.1 hb
    simp [callFunc, hf, h1, hc]
  have hr : (execOp a.eval o).run P w = .ok (.enter f args) w := by
    unfold execOp
    simp [hop, resolve, Deferred.ofValue, invoke, Act.eval, hargs, he]
  unfold Oper.wp
  rw [hr, Oper.upon_enter]
  refine h.mono ?_
  rintro e w' ⟨v, rfl, hI⟩
  exact ⟨v, by unfold dstAt; rw [ho]; rfl, hI⟩
end
end Go.Proofs.YtahagfdjpldblaaGreatDoor
