/-
  Own texts, several in one (Reg, Share, ShareE).
-/
import Derived.Test.YtahagfdjpldblaaGreatDoorMrg6
import Derived.Orders
import Derived.Test.YtahagfdjpldblaaGreatDoorMrg4
import Derived.Test.YtahagfdjpldblaaGreatDoorMrg5
import Derived.Test.YtahagfdjpldblaaGreatDoorMrg3
import Derived.Deep.OwnRows
namespace Go.Proofs.YtahagfdjpldblaaGreatDoor
open Go.RowKit
set_option linter.unusedVariables false
set_option linter.unusedSimpArgs false

def dstAt (ops : Array Oper) (i : Nat) : Option Tmp := (ops[i]?).bind (·.dst)
def Upd (L : Nat → Bool) (i : Nat) : Nat → Bool := fun j => L j || j == i
def updV (V : Nat → Value) (i : Nat) (v : Value) : Nat → Value := fun j => if j = i then v else V j
/-- the frame when the operations in L have been done and have given V -/
def fill (ops : Array Oper) (L : Nat → Bool) (V : Nat → Value) (a0 : Act) : Nat → Act
  | 0 => a0
  | n + 1 => if L n then (fill ops L V a0 n).put (dstAt ops n) (V n) else fill ops L V a0 n

theorem fill_congr {ops : Array Oper} {L L' : Nat → Bool} {V V' : Nat → Value} {a0 : Act} : ∀ n, (∀ j, j < n → L j = L' j ∧ (L j = true → V j = V' j)) → fill ops L V a0 n = fill ops L' V' a0 n
  | 0, _ => rfl
  | n + 1, h => by
    have ih := fill_congr (ops := ops) (a0 := a0) n (fun j hj => h j (by omega))
    obtain ⟨h1, h2⟩ := h n (by omega)
    unfold fill
    rw [← h1, ih]
    by_cases e : L n = true
    · rw [if_pos e, if_pos e, h2 e]
    · rw [if_neg e, if_neg e]

theorem fill_put {ops : Array Oper} {L : Nat → Bool} {V : Nat → Value} {a0 : Act} (hd : ∀ i j s, dstAt ops i = some s → dstAt ops j = some s → i = j) (i : Nat) (v : Value) (hL : L i = false) :
    ∀ n, i < n → (fill ops L V a0 n).put (dstAt ops i) v = fill ops (Upd L i) (updV V i v) a0 n
  | 0, h => by omega
  | n + 1, h => by
    by_cases e : i = n
    · subst e
      have h1 : fill ops (Upd L i) (updV V i v) a0 (i + 1) = (fill ops (Upd L i) (updV V i v) a0 i).put (dstAt ops i) v := by
        rw [fill, if_pos (by simp [Upd])]; simp [updV]
      have h2 : fill ops L V a0 (i + 1) = fill ops L V a0 i := by rw [fill, if_neg (by simp [hL])]
      rw [h1, h2]
      congr 1
      exact fill_congr i (fun j hj => ⟨by simp [Upd]; intro; omega, fun _ => by simp [updV]; intro; omega⟩)
    · have ih := fill_put (a0 := a0) (V := V) hd i v hL n (by omega)
      have e1 : Upd L i n = L n := by simp [Upd]; intro; omega
      have e2 : updV V i v n = V n := by simp [updV]; intro; omega
      unfold fill
      rw [e1, e2, ← ih]
      by_cases c : L n = true
      · rw [if_pos c, if_pos c]
        exact Act.put_comm _ _ _ (fun d h1 h2 => e (hd i n d h2 h1))
      · rw [if_neg c, if_neg c]

theorem put_size (a : Act) (d : Option Tmp) (v : Value) : (a.put d v).tmps.size = a.tmps.size := by cases d <;> simp [Act.put]
theorem fill_size {ops : Array Oper} {L : Nat → Bool} {V : Nat → Value} {a0 : Act} : ∀ n, (fill ops L V a0 n).tmps.size = a0.tmps.size
  | 0 => rfl
  | n + 1 => by
    unfold fill
    by_cases c : L n = true
    · rw [if_pos c, put_size, fill_size n]
    · rw [if_neg c, fill_size n]
theorem put_defers' (a : Act) (d : Option Tmp) (v : Value) : (a.put d v).defers = a.defers := by cases d <;> rfl
theorem fill_defers {ops : Array Oper} {L : Nat → Bool} {V : Nat → Value} {a0 : Act} : ∀ n, (fill ops L V a0 n).defers = a0.defers
  | 0 => rfl
  | n + 1 => by
    unfold fill
    by_cases c : L n = true
    · rw [if_pos c, put_defers', fill_defers n]
    · rw [if_neg c, fill_defers n]
theorem put_get (a : Act) (d : Option Tmp) (v : Value) (s : Nat) (hs : s < a.tmps.size) : (a.put d v).tmps.getD s undef = if d = some s then v else a.tmps.getD s undef := by
  cases d with
  | none => rfl
  | some t =>
    by_cases e : t = s
    · subst e
      simp [Act.put, hs]
    · have e2 : ¬ some t = some s := fun h => e (by injection h)
      rw [if_neg e2]
      simp [Act.put, Array.getElem?_setIfInBounds_ne e]
/-- a slot that no operation of the region writes -/
theorem fill_old {ops : Array Oper} {L : Nat → Bool} {V : Nat → Value} {a0 : Act} (s : Nat) (hs : s < a0.tmps.size) : ∀ n, (∀ j, j < n → dstAt ops j ≠ some s) → (fill ops L V a0 n).tmps.getD s undef = a0.tmps.getD s undef
  | 0, _ => rfl
  | n + 1, h => by
    have ih := fill_old (ops := ops) (L := L) (V := V) s hs n (fun j hj => h j (by omega))
    unfold fill
    by_cases c : L n = true
    · rw [if_pos c, put_get _ _ _ _ (by rw [fill_size]; exact hs), if_neg (h n (by omega)), ih]
    · rw [if_neg c, ih]
/-- the slot of an operation that has been done -/
theorem fill_hit {ops : Array Oper} {L : Nat → Bool} {V : Nat → Value} {a0 : Act} (hd : ∀ i j s, dstAt ops i = some s → dstAt ops j = some s → i = j) (i s : Nat) (hs : s < a0.tmps.size) (hL : L i = true) (hi : dstAt ops i = some s) :
    ∀ n, i < n → (fill ops L V a0 n).tmps.getD s undef = V i
  | 0, h => by omega
  | n + 1, h => by
    unfold fill
    by_cases e : i = n
    · subst e
      rw [if_pos hL, put_get _ _ _ _ (by rw [fill_size]; exact hs), if_pos hi]
    · have ih := fill_hit (V := V) hd i s hs hL hi n (by omega)
      by_cases c : L n = true
      · rw [if_pos c, put_get _ _ _ _ (by rw [fill_size]; exact hs), if_neg (fun h2 => e (hd i n s hi h2)), ih]
      · rw [if_neg c, ih]

/-- no two operations write one slot; an operation waits for earlier ones alone -/
def regOk (ops : Array Oper) : Bool :=
  (List.range ops.size).all fun i => ((ops[i]?).map fun o => o.after.all fun e => !(Region.binds .any e) || decide (e.on < i)).getD true &&
    (List.range i).all fun j => match dstAt ops i, dstAt ops j with | some s, some t => s != t | _, _ => true
theorem regOk_dst {ops : Array Oper} (h : regOk ops = true) : ∀ i j s, dstAt ops i = some s → dstAt ops j = some s → i = j := by
  have key : ∀ i j s, j < i → dstAt ops i = some s → dstAt ops j = some s → False := by
    intro i j s hji hi hj
    have hlt : i < ops.size := by
      by_cases c : i < ops.size
      · exact c
      · unfold dstAt at hi; rw [Array.getElem?_eq_none (by omega)] at hi; cases hi
    unfold regOk at h
    have h1 := List.all_eq_true.1 h i (by simpa using hlt)
    rw [Bool.and_eq_true] at h1
    have h2 := List.all_eq_true.1 h1.2 j (by simpa using hji)
    rw [hi, hj] at h2
    simp at h2
  intro i j s hi hj
  rcases Nat.lt_trichotomy i j with c | c | c
  · exact (key j i s c hj hi).elim
  · exact c
  · exact (key i j s c hi hj).elim
theorem regOk_after {ops : Array Oper} (h : regOk ops = true) (i : Nat) (o : Oper) (ho : ops[i]? = some o) (e : Edge) (he : e ∈ o.after) (hbe : Region.binds .any e = true) : e.on < i := by
  have hlt : i < ops.size := by
    by_cases c : i < ops.size
    · exact c
    · rw [Array.getElem?_eq_none (by omega)] at ho; cases ho
  unfold regOk at h
  have h1 := List.all_eq_true.1 h i (by simpa using hlt)
  rw [Bool.and_eq_true, ho] at h1
  have h2 := h1.1
  simp only [Option.map_some, Option.getD_some] at h2
  have h3 := (Array.all_eq_true_iff_forall_mem.1 h2) e he
  rw [hbe] at h3
  simpa using h3

section
variable {P : Program} {Q : Exit → Act → World → Prop} {ops : Array Oper} {a0 : Act}
/-- what each step owes -/
def StepOk (P : Program) (Q : Exit → Act → World → Prop) (ops : Array Oper) (a0 : Act) (I : (Nat → Bool) → (Nat → Value) → World → Prop) (i : Nat) (o : Oper) : Prop :=
  ∀ (L : Nat → Bool) (V : Nat → Value) (w : World), L i = false → (∀ k, ((o.after.toList.filter (Region.binds .any)).map (·.on)).contains k = true → L k = true) → I L V w →
    ∀ a : Act, a.defers = a0.defers → (∀ j s, L j = true → dstAt ops j = some s → s < a0.tmps.size → j < ops.size → a.eval (.tmp s) = V j) →
      (∀ s, s < a0.tmps.size → (∀ j, j < ops.size → dstAt ops j ≠ some s) → a.eval (.tmp s) = a0.eval (.tmp s)) →
      wpOp P ops Q i (fun a' w' => ∃ v, a' = a.put (dstAt ops i) v ∧ I (Upd L i) (updV V i v) w') a w

theorem region_inv_any (I : (Nat → Bool) → (Nat → Value) → World → Prop) (hok : regOk ops = true)
    (hstep : ∀ (i : Nat) (o : Oper), ops[i]? = some o → StepOk P Q ops a0 I i o)
    (hend : ∀ V w, I (fun _ => true) V w → Q .normal (fill ops (fun _ => true) V a0 ops.size) w) :
    ∀ fuel (listed : Array Bool) V w, listed.size = ops.size → ((List.range ops.size).countP fun i => !listed.getD i true) ≤ fuel → I (fun i => listed.getD i true) V w →
      wpAny P .any ops Q fuel listed (fill ops (fun i => listed.getD i true) V a0 ops.size) w := by
  have hdst := regOk_dst hok
  have allDone : ∀ (listed : Array Bool), listed.size = ops.size → Region.ready .any ops listed = [] → (fun i => listed.getD i true) = fun _ => true := by
    intro listed hsz hr
    funext i
    have main : ∀ n i, i < n → listed.getD i true = true := by
      intro n
      induction n with
      | zero => intro i h; omega
      | succ n ih =>
        intro i hi
        by_cases c : listed.getD i true = true
        · exact c
        · exfalso
          have hlt : i < ops.size := by
            by_cases c2 : i < ops.size
            · exact c2
            · exact absurd (by simp [Array.getD, show ¬ i < listed.size by omega]) c
          have hm : i ∈ Region.ready .any ops listed := by
            unfold Region.ready
            rw [List.mem_filter]
            refine ⟨by simpa using hlt, ?_⟩
            have ho : ops[i]? = some ops[i] := Array.getElem?_eq_getElem hlt
            rw [ho]
            simp only [Option.map_some, Option.getD_some, Bool.and_eq_true]
            refine ⟨by simpa using c, ?_⟩
            rw [Array.all_eq_true_iff_forall_mem]
            intro e he
            by_cases hbe : Region.binds .any e = true
            · have hlte := regOk_after hok i _ ho e he hbe
              have h2 := ih e.on (by omega)
              have h3 : listed.getD e.on false = listed.getD e.on true := by simp [Array.getD, show e.on < listed.size by omega]
              rw [h3, h2]; simp
            · simp [hbe]
          rw [hr] at hm; cases hm
    exact main (i + 1) i (by omega)
  intro fuel
  induction fuel with
  | zero =>
    intro listed V w hsz hc hI
    have hr : Region.ready .any ops listed = [] := by
      unfold Region.ready
      rw [List.filter_eq_nil_iff]
      intro i hi
      have h0 : (List.range ops.size).countP (fun i => !listed.getD i true) = 0 := by omega
      have h1 := List.countP_eq_zero.1 h0 i hi
      simp at h1 ⊢
      intro h2; rw [h1] at h2; cases h2
    have hL := allDone listed hsz hr
    refine ⟨hr, ?_⟩
    rw [hL] at hI ⊢
    exact hend V w hI
  | succ fuel ih =>
    intro listed V w hsz hc hI
    refine ⟨fun hr => ?_, fun i hi => ?_⟩
    · have hL := allDone listed hsz hr
      rw [hL] at hI ⊢
      exact hend V w hI
    · have hi' := hi
      unfold Region.ready at hi'
      rw [List.mem_filter] at hi'
      obtain ⟨hr, hp⟩ := hi'
      have hlt : i < ops.size := by simpa using hr
      have ho : ops[i]? = some ops[i] := Array.getElem?_eq_getElem hlt
      rw [ho] at hp
      simp only [Option.map_some, Option.getD_some, Bool.and_eq_true] at hp
      obtain ⟨hp1, hp2⟩ := hp
      have hLi : listed.getD i true = false := by simpa using hp1
      have hpre : ∀ e ∈ (ops[i]).after, Region.binds .any e = true → listed.getD e.on true = true := by
        intro e he hbe
        have h1 := (Array.all_eq_true_iff_forall_mem.1 hp2) e he
        have hlte := regOk_after hok i _ ho e he hbe
        rw [hbe] at h1
        have h3 : listed.getD e.on false = listed.getD e.on true := by simp [Array.getD, show e.on < listed.size by omega]
        rw [h3] at h1; simpa using h1
      have hs := hstep i _ ho (fun j => listed.getD j true) V w hLi (fun k hk => by
        simp only [List.contains_iff_mem, List.mem_map, List.mem_filter] at hk
        obtain ⟨e, ⟨he, hbe⟩, rfl⟩ := hk
        exact hpre e (by simpa using he) hbe) hI (fill ops (fun j => listed.getD j true) V a0 ops.size) (fill_defers _)
        (fun j s hj hd hs hjn => fill_hit hdst j s hs hj hd ops.size hjn)
        (fun s hs hno => fill_old s hs ops.size hno)
      refine wpOp_mono ?_ hs
      rintro a' w' ⟨v, rfl, hI'⟩
      rw [fill_put hdst i v hLi ops.size hlt]
      have hU : Upd (fun j => listed.getD j true) i = fun j => (listed.setIfInBounds i true).getD j true := by
        funext j
        unfold Upd
        by_cases c : i = j
        · subst c; simp [Array.getD]
        · have c' : ¬ j = i := fun h => c h.symm
          rw [getD_set_ne true c]
          simp [c']
      rw [hU] at hI' ⊢
      refine ih _ _ _ (by simpa using hsz) ?_ hI'
      have hcount : (List.range ops.size).countP (fun j => !(listed.setIfInBounds i true).getD j true) + 1 ≤ (List.range ops.size).countP (fun j => !listed.getD j true) := by
        have hsplit : ∀ l : List Nat, l.Nodup → i ∈ l → l.countP (fun j => !(listed.setIfInBounds i true).getD j true) + 1 = l.countP (fun j => !listed.getD j true) := by
          intro l hn hm
          induction l with
          | nil => cases hm
          | cons x l ihl =>
            rw [List.nodup_cons] at hn
            by_cases hx : x = i
            · subst hx
              have e1 : (listed.setIfInBounds x true).getD x true = true := by simp [Array.getD]
              have e2 : ∀ l : List Nat, x ∉ l → l.countP (fun j => !(listed.setIfInBounds x true).getD j true) = l.countP (fun j => !listed.getD j true) := by
                intro l hl
                apply List.countP_congr
                intro y hy
                rw [getD_set_ne true (fun h => hl (by rw [h]; exact hy))]
              rw [List.countP_cons, List.countP_cons, e2 l hn.1, e1, hLi]; simp
            · have hm2 : i ∈ l := by
                rcases List.mem_cons.1 hm with h | h
                · exact absurd h.symm hx
                · exact h
              have := ihl hn.2 hm2
              rw [List.countP_cons, List.countP_cons, getD_set_ne true (fun h => hx h.symm)]
              omega
        have := hsplit _ List.nodup_range hr
        omega
      omega

theorem region_inv {id n : Nat} (hm : P.follows .mixedOrders = true) (I : (Nat → Bool) → (Nat → Value) → World → Prop) {w0 : World} (hok : regOk ops = true)
    (h0 : I (fun i => decide (ops.size ≤ i)) (fun _ => undef) w0.drew)
    (hstep : ∀ (i : Nat) (o : Oper), ops[i]? = some o → StepOk P Q ops a0 I i o)
    (hn : ops.size = n) (hend : ∀ V w, I (fun _ => true) V w → Q .normal (fill ops (fun _ => true) V a0 n) w) : (Code.region id ops true).wp P Q a0 w0 := by
  subst hn
  refine wp_region_any hm ?_
  have hL : (fun i => (Array.replicate ops.size false).getD i true) = fun i => decide (ops.size ≤ i) := by
    funext i
    by_cases c : i < ops.size
    · simp [Array.getD, c]
    · simp [Array.getD, c]; omega
  have hf : ∀ n, n ≤ ops.size → fill ops (fun i => (Array.replicate ops.size false).getD i true) (fun _ => undef) a0 n = a0 := by
    intro n
    induction n with
    | zero => intro _; rfl
    | succ n ih =>
      intro hn
      unfold fill
      rw [if_neg (by simp [Array.getD, show n < ops.size by omega]), ih (by omega)]
  have h1 := region_inv_any (a0 := a0) I hok hstep hend ops.size (Array.replicate ops.size false) (fun _ => undef) w0.drew (by simp) (by
    refine Nat.le_trans List.countP_le_length ?_
    simp) (hL ▸ h0)
  rw [hf ops.size (Nat.le_refl _)] at h1
  exact h1

theorem st_wp {i : Nat} {o : Oper} {a : Act} {w : World} {L : Nat → Bool} {V : Nat → Value} {I : (Nat → Bool) → (Nat → Value) → World → Prop} (ho : ops[i]? = some o) (hw : Region.wanted o (yielded ops a.tmps) = true)
    (h : o.wp P a w (fun a' w' => ∃ v, a' = a.put o.dst v ∧ I (Upd L i) (updV V i v) w') Q) : wpOp P ops Q i (fun a' w' => ∃ v, a' = a.put (dstAt ops i) v ∧ I (Upd L i) (updV V i v) w') a w := by
  unfold wpOp
  simp only [ho]
  rw [if_pos hw]
  have e : dstAt ops i = o.dst := by unfold dstAt; rw [ho]; rfl
  rw [e]
  exact .inl h
theorem st_load {i : Nat} {o : Oper} {a : Act} {w : World} {L : Nat → Bool} {V : Nat → Value} {I : (Nat → Bool) → (Nat → Value) → World → Prop} (ho : ops[i]? = some o) (hw : Region.wanted o (yielded ops a.tmps) = true)
    (T : TypeId) (x : Operand) (hop : o.op = .load T x) (g : Nat) (hx : a.eval x = .pointer (some ⟨g, 0, none⟩)) {cs : Array Value} {t : TypeId} (R : Row w g cs t)
    (d : TypeDesc) (hu : P.underlying T = some d) (hd : (match d with | .struct _ | .array _ _ => true | _ => false) = true) (hi : (P.info? T).map (·.size) = some cs.size)
    (h : I (Upd L i) (updV V i (.agg cs)) w) : wpOp P ops Q i (fun a' w' => ∃ v, a' = a.put (dstAt ops i) v ∧ I (Upd L i) (updV V i v) w') a w :=
  st_wp ho hw (wp_load_row T x hop g hx t cs (0, 0) d R hu hd hi ⟨_, rfl, h⟩)
theorem st_store {i : Nat} {o : Oper} {a : Act} {w : World} {L : Nat → Bool} {V : Nat → Value} {I : (Nat → Bool) → (Nat → Value) → World → Prop} (ho : ops[i]? = some o) (hw : Region.wanted o (yielded ops a.tmps) = true)
    (T : TypeId) (x y : Operand) (hop : o.op = .store T x y) (g : Nat) (cells : Array Value) (hx : a.eval x = .pointer (some ⟨g, 0, none⟩)) (hy : a.eval y = .agg cells)
    {t : TypeId} {old : Array Value} (R : Row w g old t) (hi : (P.info? T).map (·.size) = some cells.size) (hold : old.size = cells.size) (h1 : cells.all (·.oneCell') = true)
    (h : ∀ w1, Row w1 g cells t → Stored w g w1 → I (Upd L i) (updV V i undef) w1) : wpOp P ops Q i (fun a' w' => ∃ v, a' = a.put (dstAt ops i) v ∧ I (Upd L i) (updV V i v) w') a w :=
  st_wp ho hw (wp_store_row T x y hop g cells hx hy t old R hi hold h1 ⟨undef, rfl, h _ (setRow_heap w g old cells t _ R) (stored_setRow w g cells)⟩)
theorem st_alloc {i : Nat} {o : Oper} {a : Act} {w : World} {L : Nat → Bool} {V : Nat → Value} {I : (Nat → Bool) → (Nat → Value) → World → Prop} (ho : ops[i]? = some o) (hw : Region.wanted o (yielded ops a.tmps) = true)
    (T : TypeId) (hop : o.op = .alloc T) (cs : Array Value) (hz : ∀ w : World, (zeroValue T).run P w = .ok (.agg cs) w)
    (h : ∀ g w1, w.heap.size ≤ g → Row w1 g cs T → Below w.heap.size w w1 → I (Upd L i) (updV V i (.pointer (some ⟨g, 0, none⟩))) w1) : wpOp P ops Q i (fun a' w' => ∃ v, a' = a.put (dstAt ops i) v ∧ I (Upd L i) (updV V i v) w') a w := by
  refine st_wp ho hw ?_
  unfold Oper.wp execOp
  simp only [hop, Instr.alloc, Sem.run_bind, hz, Result.andThen_ok]
  exact ⟨_, rfl, h w.heap.size (w.alloc (.cells cs T)) (Nat.le_refl _) (Row.new w cs T) ((Below.refl _ _).alloc (Nat.le_refl _) _)⟩
theorem st_val {i : Nat} {o : Oper} {a : Act} {w w1 : World} {L : Nat → Bool} {V : Nat → Value} {I : (Nat → Bool) → (Nat → Value) → World → Prop} {v : Value} (ho : ops[i]? = some o) (hw : Region.wanted o (yielded ops a.tmps) = true)
    (hr : (execOp a.eval o).run P w = .ok (.value v) w1) (h : I (Upd L i) (updV V i v) w1) : wpOp P ops Q i (fun a' w' => ∃ v, a' = a.put (dstAt ops i) v ∧ I (Upd L i) (updV V i v) w') a w := by
  unfold wpOp
  simp only [ho]
  rw [if_pos hw]
  refine .inl ?_
  unfold Oper.wp
  rw [hr]
  exact ⟨v, by unfold dstAt; rw [ho]; rfl, h⟩
theorem st_skip {i : Nat} {o : Oper} {a : Act} {w w1 : World} {L : Nat → Bool} {V : Nat → Value} {I : (Nat → Bool) → (Nat → Value) → World → Prop} (ho : ops[i]? = some o) (hw : Region.wanted o (yielded ops a.tmps) = true)
    (hr : (execOp a.eval o).run P w = .ok .skip w1) (h : I (Upd L i) (updV V i undef) w1) : wpOp P ops Q i (fun a' w' => ∃ v, a' = a.put (dstAt ops i) v ∧ I (Upd L i) (updV V i v) w') a w := by
  unfold wpOp
  simp only [ho]
  rw [if_pos hw]
  refine .inl ?_
  unfold Oper.wp
  rw [hr]
  exact ⟨undef, by unfold dstAt; rw [ho]; rfl, h⟩
theorem st_call {i : Nat} {o : Oper} {a : Act} {w : World} {L : Nat → Bool} {V : Nat → Value} {I : (Nat → Bool) → (Nat → Value) → World → Prop} (ho : ops[i]? = some o) (hw : Region.wanted o (yielded ops a.tmps) = true)
    {f : FuncId} {fn : Func} {ars : Array Operand} {ts : Array TypeId} (hop : o.op = .call { callee := .value (.func f), args := ars, argTypes := ts }) (hf : P.funcs[f]? = some fn) (hname : (fn.name == "runtime.NumGoroutine") = false) (hb : fn.body.isSome = true)
    (args : Array Value) (hargs : ars.map a.eval = args) (h : Calls P f args w fun e w' => ∃ v, e = .returned v ∧ I (Upd L i) (updV V i v) w') : wpOp P ops Q i (fun a' w' => ∃ v, a' = a.put (dstAt ops i) v ∧ I (Upd L i) (updV V i v) w') a w := by
  unfold wpOp
  simp only [ho]
  rw [if_pos hw]
  refine .inl ?_
  have he : (callFunc f args).run P w = .ok (.enter f args) w := by
    have h1 : fn.name ≠ "runtime.NumGoroutine" := by simpa using hname
    obtain ⟨c, hc⟩ := Option.isSome_iff_exists.1 hb
    simp [callFunc, hf, h1, hc]
  have hr : (execOp a.eval o).run P w = .ok (.enter f args) w := by
    unfold execOp
    simp [hop, resolve, Deferred.ofValue, invoke, Act.eval, hargs, he]
  unfold Oper.wp
  rw [hr, Oper.upon_enter]
  refine h.mono ?_
  rintro e w' ⟨v, rfl, hI⟩
  exact ⟨v, by unfold dstAt; rw [ho]; rfl, hI⟩
end
end Go.Proofs.YtahagfdjpldblaaGreatDoor

namespace Go.Proofs.YtahagfdjpldblaaGreatDoor
open Go.RowKit
set_option linter.unusedVariables false
set_option linter.unusedSimpArgs false

def uvec (l : List Nat) : Array Value := (l.map fun (n : Nat) => Value.int .u64 (n : Int)).toArray
theorem uvec_get (l : List Nat) (i : Nat) (h : i < l.length) : (uvec l)[i]? = some (.int .u64 ((l.getD i 0 : Nat) : Int)) := by
  unfold uvec
  simp [List.getElem?_map, List.getElem?_eq_getElem h, List.getD_eq_getElem?_getD]
theorem uvec_set (l : List Nat) (i x : Nat) : (uvec l).setIfInBounds i (.int .u64 (x : Int)) = uvec (l.set i x) := by
  unfold uvec
  simp [List.map_set]
theorem uvec_made (n : Nat) : madeCells #[Value.int .u64 0] n = uvec (List.replicate n 0) := by
  unfold uvec madeCells
  apply Array.ext'
  simp [Nat.mod_one, List.map_const']
/-- the first k of these, the rest not yet laid -/
def part (k : Nat) (l : List Nat) : List Nat := l.take k ++ List.replicate (l.length - k) 0
theorem part_zero (l : List Nat) : part 0 l = List.replicate l.length 0 := by simp [part]
theorem part_all (l : List Nat) : part l.length l = l := by simp [part]
theorem part_set (l : List Nat) (k : Nat) (h : k < l.length) : (part k l).set k (l.getD k 0) = part (k + 1) l := by
  unfold part
  rw [List.set_append_right _ _ (by simp; omega), List.length_take, Nat.min_eq_left (by omega), Nat.sub_self, List.take_succ_eq_append_getElem h]
  obtain ⟨m, hm⟩ : ∃ m, l.length - k = m + 1 := ⟨l.length - k - 1, by omega⟩
  rw [hm, show l.length - (k + 1) = m by omega]
  rw [List.replicate_succ, List.set_cons_zero, List.append_assoc, List.singleton_append, List.getD_eq_getElem?_getD, List.getElem?_eq_getElem h]
  rfl
theorem part_len (l : List Nat) (k : Nat) (h : k ≤ l.length) : (part k l).length = l.length := by simp [part]; omega
theorem Row.uset {W : World} {g k x : Nat} {l : List Nat} {t : TypeId} (R : Row W g (uvec l) t) : Row (W.setCell ⟨g, k, none⟩ (.int .u64 (x : Int))) g (uvec (l.set k x)) t := uvec_set l k x ▸ R.set k _
theorem Row.ucell {W : World} {g k : Nat} {l : List Nat} {t : TypeId} (R : Row W g (uvec l) t) (h : k < l.length) : W.cell? ⟨g, k, none⟩ = some (.int .u64 ((l.getD k 0 : Nat) : Int)) := (R.cell k).trans (uvec_get l k h)
def ni (l : List Nat) : List Int := l.map fun (n : Nat) => (n : Int)
theorem ni_getD (l : List Nat) (k : Nat) : (ni l).getD k 0 = ((l.getD k 0 : Nat) : Int) := by
  unfold ni
  rw [List.getD_eq_getElem?_getD, List.getElem?_map, List.getD_eq_getElem?_getD]
  cases l[k]? <;> rfl
theorem take_sum_succ (l : List Nat) (k : Nat) (h : k < l.length) : (l.take (k + 1)).sum = (l.take k).sum + l.getD k 0 := by
  rw [List.take_succ_eq_append_getElem h, List.sum_append]; simp [List.getD_eq_getElem?_getD, h]
theorem take_sum_le (l : List Nat) (k : Nat) : (l.take k).sum ≤ l.sum := by
  have := congrArg List.sum (List.take_append_drop k l)
  rw [List.sum_append] at this
  omega
theorem sum_bound (l : List Nat) (B : Nat) (h : ∀ i, l.getD i 0 ≤ B) : l.sum ≤ l.length * B := by
  induction l with
  | nil => simp
  | cons y l ih =>
    have h0 := h 0
    have := ih (fun i => by simpa using h (i + 1))
    simp at h0
    simp only [List.sum_cons, List.length_cons, Nat.succ_mul]
    omega

def MakeI (w0 : World) (b off n cap : Nat) (L : Nat → Bool) (V : Nat → Value) (w : World) : Prop :=
  Below w0.heap.size w0 w ∧ (L 0 = true → V 0 = .slice (some ⟨b, off, none⟩) n cap) ∧ (L 1 = true → V 1 = .int .i64 (n : Int)) ∧ (L 3 = true → V 3 = .slice (some ⟨b, off, none⟩) n cap) ∧ (L 4 = true → V 4 = .int .i64 (n : Int)) ∧
  (L 2 = true → ∃ g, V 2 = .slice (some ⟨g, 0, none⟩) n n ∧ w0.heap.size ≤ g ∧ Row w g (uvec (List.replicate n 0)) 38) ∧
  (L 5 = true → ∃ g, V 5 = .slice (some ⟨g, 0, none⟩) n n ∧ w0.heap.size ≤ g ∧ Row w g (uvec (List.replicate n 0)) 38) ∧
  (L 2 = true → L 5 = true → V 2 ≠ V 5) ∧ (L 6 = true → V 6 = V 2 ∧ L 2 = true) ∧ (L 7 = true → V 7 = V 5 ∧ L 5 = true)

set_option maxHeartbeats 4000000 in
theorem allot_ok (a : Int) (b off n cap : Nat) (ws : List Nat) (w : World) (hI : Wd.I64 a) (hn : Nums w b off (ni ws)) (hl : ws.length = n) (h1 : 1 ≤ n) (h8 : n ≤ 8) (hw : ∀ i, i < n → 1 ≤ ws.getD i 0 ∧ ws.getD i 0 ≤ 1000000) :
    Calls Tryz.prog 42 #[.int .i64 a, .slice (some ⟨b, off, none⟩) n cap] w fun e w' => ∃ v, e = .returned (.tuple #[v, .int .i64 0]) ∧ w'.ownsRow w.heap.size 2 1 v n (iv (Sh.allot a ws)) ∧ Below w.heap.size w w' := by
  have HN := Lib.hid hn
  have HW := Lib.hid hw
  clear hn hw
  have hq1 : ((n : Int) < 1) = False := by simp; omega
  have hq2 : ((8 : Int) < (n : Int)) = False := by simp; omega
  go_enter Tryz.func42, Tryz.ntmps42
  go_wp2_with fail
  go_loopw [6, 28] (fun t i wr => ∃ k : Nat, k ≤ n ∧ i = .int .i64 k ∧ t = .int .i64 (((ws.take k).sum : Nat) : Int) ∧ w = wr) (fun _ i _ => n - (intOf i).toNat)
  case atStart => exact ⟨0, by omega, rfl, rfl, rfl⟩
  case round =>
    obtain ⟨k, hk, rfl, rfl, rfl⟩ := hrel
    have hts : ws.sum ≤ 8000000 := by
      have hb := sum_bound ws 1000000 (fun i => by
        by_cases c : i < n
        · exact (HW.out i c).2
        · rw [Sh.getD_out _ _ (by omega)]; omega)
      omega
    have htk := take_sum_le ws k
    by_cases hlt : k < n
    · have hkl : k < (ni ws).length := by simp [ni]; omega
      have hc := HN.out k hkl
      rw [ni_getD] at hc
      have hz := HW.out k hlt
      have HS := Lib.hid (take_sum_succ ws k (by omega))
      generalize ws.getD k 0 = z at *
      go_wp2
      go_roundw
      case rel => exact ⟨k + 1, by omega, by go_num, by rw [HS.out]; go_num, trivial⟩
      case measure => simp [intOf]; omega
    · have hk0 : n = k := by omega
      subst hk0
      rw [List.take_of_length_le (by omega)] at *
      go_wp2_with fail
      refine (size_nat a hI _).mono ?_
      rintro _ w1 ⟨rfl, rfl⟩
      go_wp2_with fail
      clear htk hlt hk
      generalize hS : a.natAbs = S at *
      -- REGION 12
      refine region_inv (n := 8) (by kernel_rfl) (MakeI w b off n cap) (by kernel_rfl) ?_ ?_ rfl ?_
      · refine ⟨below_dr (Below.refl _ _), ?_⟩
        refine ⟨?_, ?_, ?_, ?_, ?_, ?_, ?_, ?_, ?_⟩ <;> (intro h; simp at h)
      · intro i o ho
        rcases i with _ | _ | _ | _ | _ | _ | _ | _ | i
        all_goals (first | (simp at ho; done) | (obtain rfl := Option.some.inj ho))
        all_goals (rintro L V wx hL hpre ⟨J1, K0, K1, K3, K4, M2, M5, D, A6, A7⟩ a hdef hev hold)
        · have ex : a.tmps[1]?.getD undef = .slice (some ⟨b, off, none⟩) n cap := by
            have h := hold 1 (by simp) (by intro j hj; rcases j with _ | _ | _ | _ | _ | _ | _ | _ | j <;> simp [dstAt])
            simpa [go_sem] using h
          exact st_val ho rfl (v := .slice (some ⟨b, off, none⟩) n cap) (by go_simp) ⟨J1, by simp [updV], by simpa [Upd, updV] using K1, by simpa [Upd, updV] using K3, by simpa [Upd, updV] using K4, by simpa [Upd, updV] using M2, by simpa [Upd, updV] using M5, by simpa [Upd, updV] using D, by simpa [Upd, updV] using A6, by simpa [Upd, updV] using A7⟩
        · have p0 := hpre 0 (by decide)
          have e0 : a.tmps[44]?.getD undef = .slice (some ⟨b, off, none⟩) n cap := by simpa [go_sem] using (hev 0 44 p0 rfl (by simp) (by simp)).trans (K0 p0)
          exact st_val ho rfl (v := .int .i64 (n : Int)) (by go_simp) ⟨J1, by simpa [Upd, updV] using K0, by simp [updV], by simpa [Upd, updV] using K3, by simpa [Upd, updV] using K4, by simpa [Upd, updV] using M2, by simpa [Upd, updV] using M5, by simpa [Upd, updV] using D, by simpa [Upd, updV] using A6, by simpa [Upd, updV] using A7⟩
        · have p1 := hpre 1 (by decide)
          have e1 : a.tmps[45]?.getD undef = .int .i64 (n : Int) := by simpa [go_sem] using (hev 1 45 p1 rfl (by simp) (by simp)).trans (K1 p1)
          have hrun := run_make_row' (P := Tryz.prog) 94 38 (.int .u64 0) 8 Tryz.underlying94 (by kernel_rfl) rfl .i64 .i64 n (by omega) (by omega) wx
          rw [uvec_made] at hrun
          exact st_val ho rfl (v := .slice (some ⟨wx.heap.size, 0, none⟩) n n) (by go_simp) ⟨below_alloc J1 _, by simpa [Upd, updV] using K0, by simpa [Upd, updV] using K1, by simpa [Upd, updV] using K3, by simpa [Upd, updV] using K4, fun _ => ⟨wx.heap.size, by simp [updV], J1.size, Row.new wx _ _⟩, fun h => by
            obtain ⟨g, e, h1, R⟩ := M5 (by simpa [Upd] using h)
            exact ⟨g, by simpa [updV] using e, h1, R.alloc _⟩, fun h2 h5 => by
            obtain ⟨g, e, h1, R⟩ := M5 (by simpa [Upd] using h5)
            have := R.lt
            simp [updV, e] <;> omega, fun h => by
            exact absurd (A6 (by simpa [Upd] using h)).2 (by rw [hL]; simp), by simpa [Upd, updV] using A7⟩
        · have ex : a.tmps[1]?.getD undef = .slice (some ⟨b, off, none⟩) n cap := by
            have h := hold 1 (by simp) (by intro j hj; rcases j with _ | _ | _ | _ | _ | _ | _ | _ | j <;> simp [dstAt])
            simpa [go_sem] using h
          exact st_val ho rfl (v := .slice (some ⟨b, off, none⟩) n cap) (by go_simp) ⟨J1, by simpa [Upd, updV] using K0, by simpa [Upd, updV] using K1, by simp [updV], by simpa [Upd, updV] using K4, by simpa [Upd, updV] using M2, by simpa [Upd, updV] using M5, by simpa [Upd, updV] using D, by simpa [Upd, updV] using A6, by simpa [Upd, updV] using A7⟩
        · have p3 := hpre 3 (by decide)
          have e3 : a.tmps[47]?.getD undef = .slice (some ⟨b, off, none⟩) n cap := by simpa [go_sem] using (hev 3 47 p3 rfl (by simp) (by simp)).trans (K3 p3)
          exact st_val ho rfl (v := .int .i64 (n : Int)) (by go_simp) ⟨J1, by simpa [Upd, updV] using K0, by simpa [Upd, updV] using K1, by simpa [Upd, updV] using K3, by simp [updV], by simpa [Upd, updV] using M2, by simpa [Upd, updV] using M5, by simpa [Upd, updV] using D, by simpa [Upd, updV] using A6, by simpa [Upd, updV] using A7⟩
        · have p4 := hpre 4 (by decide)
          have e4 : a.tmps[48]?.getD undef = .int .i64 (n : Int) := by simpa [go_sem] using (hev 4 48 p4 rfl (by simp) (by simp)).trans (K4 p4)
          have hrun := run_make_row' (P := Tryz.prog) 94 38 (.int .u64 0) 8 Tryz.underlying94 (by kernel_rfl) rfl .i64 .i64 n (by omega) (by omega) wx
          rw [uvec_made] at hrun
          exact st_val ho rfl (v := .slice (some ⟨wx.heap.size, 0, none⟩) n n) (by go_simp) ⟨below_alloc J1 _, by simpa [Upd, updV] using K0, by simpa [Upd, updV] using K1, by simpa [Upd, updV] using K3, by simpa [Upd, updV] using K4, fun h => by
            obtain ⟨g, e, h1, R⟩ := M2 (by simpa [Upd] using h)
            exact ⟨g, by simpa [updV] using e, h1, R.alloc _⟩, fun _ => ⟨wx.heap.size, by simp [updV], J1.size, Row.new wx _ _⟩, fun h2 h5 => by
            obtain ⟨g, e, h1, R⟩ := M2 (by simpa [Upd] using h2)
            have := R.lt
            simp [updV, e] <;> omega, by simpa [Upd, updV] using A6, fun h => by
            exact absurd (A7 (by simpa [Upd] using h)).2 (by rw [hL]; simp)⟩
        · have p2 := hpre 2 (by decide)
          have e2 : a.tmps[46]?.getD undef = V 2 := by simpa [go_sem] using (hev 2 46 p2 rfl (by simp) (by simp)).trans rfl
          exact st_val ho rfl (v := V 2) (by go_simp) ⟨J1, by simpa [Upd, updV] using K0, by simpa [Upd, updV] using K1, by simpa [Upd, updV] using K3, by simpa [Upd, updV] using K4, by simpa [Upd, updV] using M2, by simpa [Upd, updV] using M5, by simpa [Upd, updV] using D, by simp [Upd, updV, p2], by simpa [Upd, updV] using A7⟩
        · have p5 := hpre 5 (by decide)
          have e5 : a.tmps[49]?.getD undef = V 5 := by simpa [go_sem] using (hev 5 49 p5 rfl (by simp) (by simp)).trans rfl
          exact st_val ho rfl (v := V 5) (by go_simp) ⟨J1, by simpa [Upd, updV] using K0, by simpa [Upd, updV] using K1, by simpa [Upd, updV] using K3, by simpa [Upd, updV] using K4, by simpa [Upd, updV] using M2, by simpa [Upd, updV] using M5, by simpa [Upd, updV] using D, by simpa [Upd, updV] using A6, by simp [Upd, updV, p5]⟩
      -- END 12
      · rintro V wx ⟨J1, K0, K1, K3, K4, M2, M5, D, A6, A7⟩
        obtain ⟨g1, e2, hg1, R1⟩ := M2 rfl
        obtain ⟨g2, e5, hg2, R2⟩ := M5 rfl
        have hne : g1 ≠ g2 := fun h => D rfl rfl (by rw [e2, e5, h])
        have hne2 : g2 ≠ g1 := fun h => hne h.symm
        have v0 := K0 rfl
        have v1 := K1 rfl
        have v3 := K3 rfl
        have v4 := K4 rfl
        have v6 := (A6 rfl).1.trans e2
        have v7 := (A7 rfl).1.trans e5
        simp only [fill, if_true, dstAt, v0, v1, v3, v4, e2, e5, v6, v7]
        simp [Act.put]
        clear K0 K1 K3 K4 M2 M5 D A6 A7 v0 v1 v3 v4 v6 v7 e2 e5 V
        have hT : 0 < ws.sum := by
          have h := HW.out 0 (by omega)
          have := Sh.getD_le_sum ws 0
          omega
        have FQ : Hid (∀ k, (Sh.quos S ws.sum ws).getD k 0 = S * ws.getD k 0 / ws.sum) := Lib.hid fun i => by
          unfold Sh.quos
          rw [List.getD_eq_getElem?_getD, List.getElem?_map, List.getD_eq_getElem?_getD]
          cases ws[i]? <;> simp
        have FR : Hid (∀ k, (Sh.rests S ws.sum ws).getD k 0 = S * ws.getD k 0 % ws.sum) := Lib.hid fun i => by
          unfold Sh.rests
          rw [List.getD_eq_getElem?_getD, List.getElem?_map, List.getD_eq_getElem?_getD]
          cases ws[i]? <;> simp
        have HQl : (Sh.quos S ws.sum ws).length = n := by simp [Sh.quos, hl]
        have HRl : (Sh.rests S ws.sum ws).length = n := by simp [Sh.rests, hl]
        have hsum := (Sh.left_eq S ws hT).2
        have HE : Hid (Sh.hand (S - (Sh.quos S ws.sum ws).sum) (Sh.quos S ws.sum ws) (Sh.rests S ws.sum ws) = Sh.sizes S ws) := Lib.hid rfl
        have hleft : S - (Sh.quos S ws.sum ws).sum ≤ n := by
          have := Sh.left_le S ws hT
          unfold Sh.left at this
          omega
        have hQS : Hid (∀ k, (Sh.quos S ws.sum ws).getD k 0 ≤ S) := Lib.hid fun k => Nat.le_trans (Sh.getD_le_sum _ _) hsum
        have hS63 : S ≤ 9223372036854775808 := by unfold Wd.I64 at hI; omega
        have R1' : Row wx g1 (uvec (part 0 (Sh.quos S ws.sum ws))) 38 := by rw [part_zero, HQl]; exact R1
        have R2' : Row wx g2 (uvec (part 0 (Sh.rests S ws.sum ws))) 38 := by rw [part_zero, HRl]; exact R2
        generalize Sh.quos S ws.sum ws = Q at *
        generalize Sh.rests S ws.sum ws = Rs at *
        clear R1 R2
        go_wp2_with fail
        go_loopw [12, 53] (fun l i wr => ∃ k : Nat, k ≤ n ∧ i = .int .i64 k ∧ l = .int .u64 ((S - (Q.take k).sum : Nat) : Int) ∧ Row wr g1 (uvec (part k Q)) 38 ∧ Row wr g2 (uvec (part k Rs)) 38 ∧ Below w.heap.size w wr) (fun _ i _ => n - (intOf i).toNat)
        case atStart => exact ⟨0, by omega, rfl, by simp, R1', R2', J1⟩
        case round =>
          obtain ⟨k, hk, rfl, rfl, Z1, Z2, BB⟩ := hrel
          clear R1' R2' J1
          by_cases hlt : k < n
          · have hkl : k < (ni ws).length := by simp [ni]; omega
            have hc0 := HN.out k hkl
            rw [ni_getD] at hc0
            have hc : wr.cell? ⟨b, off + k, none⟩ = some (.int .i64 ((ws.getD k 0 : Nat) : Int)) := (BB.cell (block_lt_of_cell hc0)).trans hc0
            have hz := HW.out k hlt
            have hTz : ws.getD k 0 ≤ ws.sum := Sh.getD_le_sum ws k
            have HS := Lib.hid (take_sum_succ Q k (by omega))
            have hQk := take_sum_le Q (k + 1)
            have PQ := Lib.hid (part_set Q k (by omega))
            have PR := Lib.hid (part_set Rs k (by omega))
            have hql := part_len Q k (by omega)
            have hrl := part_len Rs k (by omega)
            have fq := Lib.hid (FQ.out k)
            have fr := Lib.hid (FR.out k)
            generalize ws.getD k 0 = z at *
            have CP : Hid (∀ W : World, Calls Tryz.prog 54 #[.int .u64 (S : Int), .int .i64 (z : Int)] W fun e w' => e = .returned (.agg #[.int .i64 (Wd.hi ((S * z : Nat) : Int)), .int .u64 (Wd.lo ((S * z : Nat) : Int))]) ∧ Below W.heap.size W w') := Lib.hid (product_any S z hS63 hz.2)
            have CQ : Hid (∀ W : World, Calls Tryz.prog 53 #[.agg #[.int .i64 (Wd.hi ((S * z : Nat) : Int)), .int .u64 (Wd.lo ((S * z : Nat) : Int))], .int .i64 (ws.sum : Int)] W fun e w' => e = .returned (.tuple #[.int .u64 ((Q.getD k 0 : Nat) : Int), .int .u64 ((Rs.getD k 0 : Nat) : Int)]) ∧ Below W.heap.size W w') := Lib.hid fun W => by
              have h := quo_any (S * z) ws.sum W hT (by
                rw [Nat.mul_comm ws.sum]
                refine Nat.lt_of_le_of_lt (Nat.mul_le_mul_left S hTz) ?_
                exact Nat.mul_lt_mul_of_pos_right (by omega) hT) (by omega)
              rw [fq.out, fr.out]
              exact h
            generalize ((S * z : Nat) : Int) = pz at *
            clear FQ FR fq fr
            generalize hqk : Q.getD k 0 = q at *
            generalize hrk : Rs.getD k 0 = r at *
            clear hqk hrk
            generalize hpq : part k Q = p1 at *
            generalize hpr : part k Rs = p2 at *
            have c1 := Z1.ucell (k := k) (by omega)
            have c2 := Z2.ucell (k := k) (by omega)
            have f1 := Z1.frozen k
            have f2 := Z2.frozen k
            clear c1 c2 f1 f2
            go_wp2_with fail
            refine (CP.out _).mono ?_
            rintro _ w3 ⟨rfl, hb3⟩
            go_wp2_with fail
            refine (CQ.out _).mono ?_
            rintro _ w4 ⟨rfl, hb4⟩
            have Y1 := (Z1.below hb3).below hb4
            have Y2 := (Z2.below hb3).below hb4
            have B4 := below_then (below_then BB hb3) hb4
            clear CP CQ hb3 hb4 Z1 Z2 BB hc
            have c1 := Y1.ucell (k := k) (by omega)
            have c2 := Y2.ucell (k := k) (by omega)
            have f1 := Y1.frozen k
            have f2 := Y2.frozen k
            go_wp2
            go_roundw
            case rel =>
              refine ⟨k + 1, by omega, by go_num, ?_, ?_, ?_, below_set (below_set B4 hg1 _ _) hg2 _ _⟩
              · have e : IntKind.u64.wrap (((S - (Q.take k).sum : Nat) : Int) - (q : Int)) = ((S - (Q.take (k + 1)).sum : Nat) : Int) := by
                  rw [HS.out] at hQk ⊢
                  rw [IntKind.wrap_u64]
                  omega
                rw [e]
              · rw [← PQ.out]
                exact Y1.uset.other ⟨g2, k, none⟩ hne _
              · rw [← PR.out]
                exact (Y2.other ⟨g1, k, none⟩ hne2 _).uset
            case measure => simp [intOf]; omega
          · have hk0 : n = k := by omega
            subst hk0
            have zQ : part n Q = Q := HQl ▸ part_all Q
            have zR : part n Rs = Rs := HRl ▸ part_all Rs
            rw [zQ] at Z1
            rw [zR] at Z2
            rw [List.take_of_length_le (by omega)]
            clear zQ zR FQ FR hlt hk
            go_wp2_with fail
            go_loopw [12] (fun l wr => ∃ (j : Nat) (o r : List Nat), l = .int .u64 (j : Int) ∧ j ≤ n ∧ o.length = n ∧ r.length = n ∧ Sh.hand j o r = Sh.sizes S ws ∧ (∀ i, o.getD i 0 + j ≤ S + 8) ∧ Row wr g1 (uvec o) 38 ∧ Row wr g2 (uvec r) 38 ∧ Below w.heap.size w wr) (fun l _ => (intOf l).toNat)
            case atStart => exact ⟨_, Q, Rs, rfl, hleft, HQl, HRl, HE.out, fun i => by have := hQS.out i; omega, Z1, Z2, BB⟩
            case round =>
              clear Z1 Z2 BB HE hQS HQl HRl
              obtain ⟨j, o, r, rfl, hj, hol, hrl, HE, hob, Z1, Z2, BB⟩ := hrel
              replace HE := Lib.hid HE
              replace hob := Lib.hid hob
              by_cases h0 : 0 < j
              · generalize hW : wr = w5 at *
                go_wp2_with fail
                go_loopw [15, 85] (fun bs i wr => ∃ k : Nat, k ≤ n ∧ i = .int .i64 k ∧ bs = .int .i64 ((Sh.bst r k : Nat) : Int) ∧ w5 = wr) (fun _ i _ => n - (intOf i).toNat)
                case atStart => exact ⟨0, by omega, rfl, rfl, rfl⟩
                case round =>
                  obtain ⟨k, hk, rfl, rfl, hw5⟩ := hrel
                  subst hw5
                  have hbk : Sh.bst r k < n := hrl ▸ Sh.quo_lt r k (by omega) (by omega)
                  have HB : Hid (Sh.bst r (k + 1) = if r.getD (Sh.bst r k) 0 < r.getD k 0 then k else Sh.bst r k) := Lib.hid rfl
                  by_cases hlt : k < n
                  · have c1 := Z2.ucell (k := k) (by omega)
                    have c2 := Z2.ucell (k := Sh.bst r k) (by omega)
                    generalize Sh.bst r k = bk at *
                    generalize r.getD k 0 = x at *
                    generalize r.getD bk 0 = y at *
                    by_cases hxy : y < x
                    · have hxy2 : (y : Int) < (x : Int) := by omega
                      have HB2 := HB.out
                      rw [if_pos hxy] at HB2
                      go_wp2
                      go_roundw
                      case rel => exact ⟨k + 1, by omega, by go_num, by rw [HB2], trivial⟩
                      case measure => simp [intOf]; omega
                    · have hxy2 : ¬ (y : Int) < (x : Int) := by omega
                      have HB2 := HB.out
                      rw [if_neg hxy] at HB2
                      go_wp2
                      go_roundw
                      case rel => exact ⟨k + 1, by omega, by go_num, by rw [HB2], trivial⟩
                      case measure => simp [intOf]; omega
                  · have hk0 : n = k := by omega
                    subst hk0
                    have hbest : Sh.bst r n = Sh.best r := by unfold Sh.best; rw [hrl]
                    rw [hbest]
                    rw [hbest] at hbk
                    obtain ⟨j, rfl⟩ : ∃ i, j = i + 1 := ⟨j - 1, by omega⟩
                    have HE2 : Hid (Sh.hand j (o.set (Sh.best r) (o.getD (Sh.best r) 0 + 1)) (r.set (Sh.best r) 0) = Sh.sizes S ws) := Lib.hid HE.out
                    have hob2 : Hid (∀ i, (o.set (Sh.best r) (o.getD (Sh.best r) 0 + 1)).getD i 0 + j ≤ S + 8) := Lib.hid fun i => by
                      rw [Sh.getD_set _ _ _ _ (by omega)]
                      have h1 := hob.out i
                      have h2 := hob.out (Sh.best r)
                      split <;> omega
                    have hx := hob.out (Sh.best r)
                    clear HE hob HB hbest
                    generalize Sh.best r = bb at *
                    have c1 := Z1.ucell (k := bb) (by omega)
                    have c2 := Z2.ucell (k := bb) (by omega)
                    have f1 := Z1.frozen bb
                    have f2 := Z2.frozen bb
                    generalize o.getD bb 0 = x at *
                    have e1 : IntKind.u64.wrap ((x : Int) + 1) = ((x + 1 : Nat) : Int) := by rw [IntKind.wrap_u64]; omega
                    go_wp2
                    go_roundw
                    case rel =>
                      refine ⟨j, o.set bb (x + 1), r.set bb 0, rfl, by omega, by simp [hol], by simp [hrl], HE2.out, hob2.out, ?_, ?_, below_set (below_set BB hg1 _ _) hg2 _ _⟩
                      · exact (Row.uset (x := x + 1) Z1).other ⟨g2, bb, none⟩ hne _
                      · exact Row.uset (x := 0) (Z2.other ⟨g1, bb, none⟩ hne2 _)
                    case measure => simp [intOf]
              · have hj0 : j = 0 := by omega
                subst hj0
                have e1 : o = Sh.sizes S ws := HE.out
                subst e1
                have ho : ∀ i, (Sh.sizes S ws).getD i 0 ≤ S := Sh.sizes_le S ws hT
                have EA : iv ((Sh.sizes S ws).map (sgn (decide (a < 0)))) = iv (Sh.allot a ws) := by
                  unfold Sh.allot
                  rw [hS]
                  congr 1
                  refine List.map_congr_left fun i _ => ?_
                  unfold sgn
                  by_cases h : a < 0 <;> simp [h]
                have SG := Lib.hid fun (W : World) (hn : NumsU W g1 0 (Sh.sizes S ws)) => signed_any (decide (a < 0)) g1 n n (Sh.sizes S ws) W hn hol h8 (fun i => by
                  have h := ho i
                  unfold Wd.I64 at hI
                  by_cases c : a < 0
                  · exact .inr ⟨by simp [c], by omega⟩
                  · exact .inl (by omega))
                rw [EA] at SG
                have NU : NumsU wr g1 0 (Sh.sizes S ws) := fun i hi => by
                  rw [Nat.zero_add]
                  exact Z1.ucell hi
                go_wp2_with fail
                refine (SG.out _ NU).mono ?_
                rintro _ w9 ⟨v, rfl, hown, hb9⟩
                go_wp2
                go_ret2
                exact ⟨v, rfl, own_mono hown BB.size, below_then BB hb9⟩
end Go.Proofs.YtahagfdjpldblaaGreatDoor

namespace Go.Proofs.YtahagfdjpldblaaGreatDoor
open Go.RowKit
set_option linter.unusedVariables false
set_option linter.unusedSimpArgs false

theorem allot_size (a : Int) (p : Option Addr) (n cap : Nat) (w : World) (h : n < 1 ∨ 8 < n) :
    Calls Tryz.prog 42 #[.int .i64 a, .slice p n cap] w fun e w' => e = .returned (.tuple #[.slice none 0 0, .int .i64 2]) ∧ w = w' := by
  rcases h with h | h
  · have hq1 : (n : Int) < 1 := by omega
    go_enter Tryz.func42, Tryz.ntmps42
    go_wp2
    go_ret2
    exact ⟨rfl, rfl⟩
  · have hq1 : ¬ (n : Int) < 1 := by omega
    have hq2 : (8 : Int) < (n : Int) := by omega
    go_enter Tryz.func42, Tryz.ntmps42
    go_wp2
    go_ret2
    exact ⟨rfl, rfl⟩

set_option maxHeartbeats 2000000 in
theorem allot_range (a : Int) (b off n cap : Nat) (zs : List Int) (w : World) (hn : Nums w b off zs) (hz : ∀ z ∈ zs, Wd.I64 z) (hl : zs.length = n) (h1 : 1 ≤ n) (h8 : n ≤ 8) (hbad : ∃ i, i < n ∧ ¬ (1 ≤ zs.getD i 0 ∧ zs.getD i 0 ≤ 1000000)) :
    Calls Tryz.prog 42 #[.int .i64 a, .slice (some ⟨b, off, none⟩) n cap] w fun e w' => e = .returned (.tuple #[.slice none 0 0, .int .i64 5]) ∧ w = w' := by
  have HN := Lib.hid hn
  have HB := Lib.hid hbad
  clear hn hbad hz
  have hq1 : ((n : Int) < 1) = False := by simp; omega
  have hq2 : ((8 : Int) < (n : Int)) = False := by simp; omega
  go_enter Tryz.func42, Tryz.ntmps42
  go_wp2_with fail
  go_loopw [6, 28] (fun t i wr => ∃ k s : Nat, k ≤ n ∧ i = .int .i64 k ∧ t = .int .i64 (s : Int) ∧ s ≤ k * 1000000 ∧ (∀ i, i < k → 1 ≤ zs.getD i 0 ∧ zs.getD i 0 ≤ 1000000) ∧ w = wr) (fun _ i _ => n - (intOf i).toNat)
  case atStart => exact ⟨0, 0, by omega, rfl, rfl, by omega, fun i h => by omega, rfl⟩
  case round =>
    obtain ⟨k, s, hk, rfl, rfl, hs, hg, hw⟩ := hrel
    subst hw
    replace hg := Lib.hid hg
    by_cases hlt : k < n
    · have hc := HN.out k (by omega)
      by_cases hz : 1 ≤ zs.getD k 0 ∧ zs.getD k 0 ≤ 1000000
      · have hg2 : Hid (∀ i, i < k + 1 → 1 ≤ zs.getD i 0 ∧ zs.getD i 0 ≤ 1000000) := Lib.hid fun i hi => by
          by_cases c : i < k
          · exact hg.out i c
          · rw [show i = k by omega]; exact hz
        generalize zs.getD k 0 = z at *
        obtain ⟨z, rfl⟩ : ∃ m : Nat, z = (m : Int) := ⟨z.toNat, by omega⟩
        go_wp2
        go_roundw
        case rel => exact ⟨k + 1, s + z, by omega, by go_num, by go_num, by omega, hg2.out, trivial⟩
        case measure => simp [intOf]; omega
      · generalize zs.getD k 0 = z at *
        by_cases h0 : z < 1
        · go_wp2
          go_ret2
          exact ⟨rfl, rfl⟩
        · have h2 : 1000000 < z := by omega
          go_wp2
          go_ret2
          exact ⟨rfl, rfl⟩
    · obtain ⟨i, hi, hb⟩ := HB.out
      exact absurd (hg.out i (by omega)) hb
end Go.Proofs.YtahagfdjpldblaaGreatDoor
