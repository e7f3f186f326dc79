/-
  Own texts, several in one (Keys, RegV, PairEq).
-/
import Derived.Test.YtahagfdjpldblaaGreatDoorMrg14
import Derived.Test.YtahagfdjpldblaaGreatDoorMrg12
import Derived.Test.YtahagfdjpldblaaGreatDoorMrg7
import Derived.Deep.MidRow
import Derived.Test.YtahagfdjpldblaaGreatDoorMrg13
namespace Go.Proofs.YtahagfdjpldblaaGreatDoor
open Go.RowKit Ky Go.Lib Go.Sort
set_option linter.unusedVariables false
set_option linter.unusedSimpArgs false

def kcmp (c d : K) : Int := Ky.cmp c.num d.num
theorem kcmp_lt (c d : K) : kcmp c d < 0 ↔ c.num < d.num := cmp_lt _ _
theorem kcmp_swo : SWO (ltOf fun c d : { c : K // K.ok c } => kcmp c.1 d.1) where
  irrefl x := by unfold ltOf; rw [decide_eq_false_iff_not, kcmp_lt]; omega
  trans x y z h1 h2 := by unfold ltOf at *; rw [decide_eq_true_eq, kcmp_lt] at *; omega
  ntrans x y z h1 h2 := by unfold ltOf at *; rw [decide_eq_false_iff_not, kcmp_lt] at *; omega
abbrev KK := { c : K // K.ok c }
def kk0 : KK := ⟨⟨0, 0, 0⟩, by unfold K.ok; decide⟩
instance : Inhabited KK := ⟨kk0⟩
def ekk (x : KK) : List Value := kc x.1
/-- these pairs lie in a slice -/
def KeysAt (w : World) (v : Value) (l : List K) : Prop := ∃ p cap, v = .slice p l.length cap ∧ (l = [] ∨ ∃ g, p = some ⟨g, 0, none⟩ ∧ ∀ t u, (kcs l)[t]? = some u → w.cell? ⟨g, t, none⟩ = some u)
theorem kcs_get (l : List K) : ∀ (t : Nat), t < l.length * 3 → (kcs l)[t]? = (kc (l.getD (t / 3) kk0.1))[t % 3]? := by
  induction l with
  | nil => intro t h; simp at h
  | cons c l ih =>
    intro t h
    have e : kcs (c :: l) = kc c ++ kcs l := rfl
    rw [e]
    by_cases ht : t < 3
    · rw [List.getElem?_append_left (by rw [kc_len]; exact ht), show t / 3 = 0 by omega, show t % 3 = t by omega]
      rfl
    · rw [List.getElem?_append_right (by rw [kc_len]; omega), kc_len, ih (t - 3) (by simp at h; omega), show (t - 3) / 3 = t / 3 - 1 by omega, show (t - 3) % 3 = t % 3 by omega]
      obtain ⟨q, hq⟩ : ∃ q, t / 3 = q + 1 := ⟨t / 3 - 1, by omega⟩
      rw [hq]
      rfl
theorem flat_getK (d : Array KK) (t : Nat) (h : t < d.size * 3) : (kcs (d.toList.map (·.1)))[t]? = some (flatK ekk 3 d)[t]! := by
  rw [get_flatK ekk 3 d t h, kcs_get _ t (by simpa using h)]
  have h1 : t / 3 < d.size := by omega
  have e1 : (d.toList.map (·.1)).getD (t / 3) kk0.1 = (d[t / 3]!).1 := by
    rw [List.getD_eq_getElem?_getD, List.getElem?_map, Array.getElem?_toList, Array.getElem?_eq_getElem h1, getElem!_pos d (t / 3) h1]
    rfl
  rw [e1]
  unfold ekk
  have h2 : t % 3 < (kc (d[t / 3]!).1).length := by rw [kc_len]; omega
  rw [List.getElem?_eq_getElem h2, getElem!_pos (kc (d[t / 3]!).1) (t % 3) h2]
theorem cmpLaysK (blk off size : Nat) (w : World) : CmpLays Tryz.prog 27 #[] ekk 3 (fun c d : KK => kcmp c.1 d.1) blk off size w :=
  fun _ _ _ _ x y => compare_gr x.1 y.1 x.2 y.2 _
set_option maxHeartbeats 1000000 in
theorem sort_keys (W : World) (B : Nat) (v : Value) (l : List K) (hB : B ≤ W.heap.size) (hl : l.length ≤ 1000) (hok : ∀ c ∈ l, K.ok c) (hown : W.ownsRow B 29 3 v l.length (kcs l)) :
    Calls Tryz.prog 35 #[v, .func (.func 27) #[] #[]] W fun e w' => e = .returned (.tuple #[]) ∧ ∃ l', l'.Perm l ∧ ((∀ i j, i < j → j < l'.length → ¬ kcmp (l'.getD j kk0.1) (l'.getD i kk0.1) < 0) ∧ KeysAt w' v l') ∧ Below B W w' := by
  rcases hown.2 with ⟨rfl, h0⟩ | ⟨g, cap, cur, rfl, hg, hh, hc, hm, hs, ht⟩
  · have hl0 : l = [] := List.length_eq_zero_iff.1 h0
    subst hl0
    refine (AnyF.slices_SortFunc_none { Tryz.laysSlF06_f35 with } none 0 _ W).mono ?_
    rintro e w' ⟨rfl, rfl⟩
    exact ⟨rfl, [], List.Perm.refl _, ⟨fun i j _ h => by simp at h, none, 0, rfl, .inl rfl⟩, ⟨rfl, rfl, rfl, Nat.le_refl _, fun _ _ => rfl⟩⟩
  · obtain ⟨d, hd⟩ : ∃ d : Array KK, d.toList.map (·.1) = l := ⟨(l.attach.map fun x => (⟨x.1, hok x.1 x.2⟩ : KK)).toArray, by
      rw [List.toList_toArray, List.map_map]
      exact List.attach_map_subtype_val l⟩
    have hsz : d.size = l.length := by rw [← hd]; simp
    have hcell : ∀ t u, (kcs l)[t]? = some u → W.cell? ⟨g, t, none⟩ = some u ∧ W.frozen? ⟨g, t, none⟩ = false := fun t u hu => by
      have hlt : t < l.length * 3 := by
        by_cases c : t < l.length * 3
        · exact c
        · rw [List.getElem?_eq_none (by rw [kcs_len]; omega)] at hu; cases hu
      refine ⟨?_, frozen_of_row W g t cur _ hh⟩
      rw [cell_of_row W g t cur _ _ hh]
      rw [← ht, List.getElem?_take, if_pos hlt] at hu
      simpa using hu
    have hH : HoldsK ekk 3 W g 0 d := fun j hj => by
      rw [size_flatK] at hj
      rw [Nat.zero_add]
      have := flat_getK d j hj
      rw [hd] at this
      exact hcell j _ this
    have hgl : g < W.heap.size := by
      by_cases c : g < W.heap.size
      · exact c
      · rw [Array.getElem?_eq_none (by omega)] at hh; cases hh
    have eg : ∀ args w, (callFunc 27 args).run Tryz.prog w = .ok (.enter 27 args) w := enters_of Tryz.func27 (by kernel_rfl) rfl
    have hcon := AnyQ.slices_SortFunc Tryz.laysSlF06_f35 3 Tryz.isAgg29 Tryz.sizeOf29 ekk (fun _ => rfl) (fun x v hv => kc_one x.1 v hv) (fun c d : KK => kcmp c.1 d.1) kcmp_swo 27 #[] g 0 cap d W eg (cmpLaysK g 0 d.size W) hH hgl (by omega)
    rw [hsz] at hcon
    refine hcon.mono ?_
    rintro e w' ⟨rfl, d', n, os, hp, hsd, rfl⟩
    obtain ⟨hp1, _, hp3⟩ := hp
    have hz : d'.size = l.length := by rw [hp1, hsz]
    have hperm : (d'.toList.map (·.1)).Perm l := by
      have h1 : d'.extract 0 l.length = d' := by rw [← hz]; exact Array.extract_size
      have h2 : d.extract 0 l.length = d := by rw [← hsz]; exact Array.extract_size
      rw [h1, h2] at hp3
      rw [← hd]
      exact hp3.map _
    have hget : ∀ j, j < l.length → (d'.toList.map (·.1)).getD j kk0.1 = (d'[j]!).1 := fun j hj => by
      rw [List.getD_eq_getElem?_getD, List.getElem?_map, Array.getElem?_toList, Array.getElem?_eq_getElem (by omega), getElem!_pos d' j (by omega)]
      rfl
    have hlen : (d'.toList.map (·.1)).length = l.length := by simp [hz]
    refine ⟨rfl, _, hperm, ⟨fun i j hij hj => ?_, some ⟨g, 0, none⟩, cap, by rw [hlen], .inr ⟨g, rfl, fun t u hu => ?_⟩⟩, ?_⟩
    · rw [hlen] at hj
      have h := hsd i j (Nat.zero_le _) hij hj
      unfold ltOf at h
      rw [decide_eq_false_iff_not] at h
      rw [hget j hj, hget i (by omega)]
      exact h
    · have hlt : t < d'.size * 3 := by
        by_cases c : t < d'.size * 3
        · exact c
        · rw [List.getElem?_eq_none (by rw [kcs_len]; simp; omega)] at hu; cases hu
      have h3 := flat_getK d' t hlt
      rw [hu] at h3
      unfold sortWorldK
      rw [cell?_grow _ _ _ (by unfold putRowK; rw [size_putRow]; exact hgl)]
      have h4 := cell?_putRow id (Sort.ahead W n) g 0 (flatK ekk 3 d) (flatK ekk 3 d') (holds_ahead _ _ _ _ _ _ hH) (by rw [size_flatK, size_flatK, hp1]) t (by rw [size_flatK]; exact hlt)
      rw [Nat.zero_add] at h4
      exact h4.trans h3.symm
    · refine ⟨rfl, rfl, rfl, ?_, fun k hk => ?_⟩
      · unfold sortWorldK putRowK
        simp [grow, putRow, mapBlock, Sort.ahead]
      · unfold sortWorldK putRowK
        rw [Go.Sort.heap_grow_old _ _ (by rw [size_putRow]; show k < W.heap.size; omega)]
        show (W.heap.modify g _)[k]? = _
        rw [Array.getElem?_modify, if_neg (by omega)]
/-- these pairs rise -/
def RiseK (l : List K) : Prop := ∀ i j, i < j → j < l.length → ¬ kcmp (l.getD j kk0.1) (l.getD i kk0.1) < 0
theorem keys_any (b n : Nat) (G : K → Option Int) (w : World) (hn : n ≤ 1000) (hG : ∀ c u, G c = some u → K.ok c) (hM : MapIs w Tryz.prog 29 K.val wval b n G) :
    Calls Tryz.prog 9 #[.map (some b)] w fun e w' => ∃ v l, e = .returned v ∧ l.Nodup ∧ (∀ c, c ∈ l ↔ ∃ u, G c = some u) ∧ RiseK l ∧ KeysAt w' v l ∧ Below w.heap.size w w' := by
  have S := Lib.hid (sortedK_any b n G (.func (.func 27) #[] #[]) w hn (fun w' v l => RiseK l ∧ KeysAt w' v l) hM (fun W B v l hB hl hmem hown => sort_keys W B v l hB hl (fun c hc => by obtain ⟨u, hu⟩ := hmem c hc; exact hG c u hu) hown))
  clear hM hG
  go_enter Tryz.func9, Tryz.ntmps9
  go_wp2_with fail
  refine S.out.mono ?_
  rintro _ w1 ⟨v, l, rfl, h1, h2, ⟨h3, h4⟩, h5⟩
  go_wp2
  go_ret
  exact ⟨v, l, rfl, h1, h2, h3, h4, h5⟩
end Go.Proofs.YtahagfdjpldblaaGreatDoor

namespace Go.Proofs.YtahagfdjpldblaaGreatDoor
open Go.RowKit
set_option linter.unusedVariables false
set_option linter.unusedSimpArgs false

/-- the value of slot s is settled when operation i comes up: nobody writes it, or one that i waits for -/
def settled (ops : Array Oper) (o : Oper) (s : Nat) : Bool :=
  (List.range ops.size).all fun j => match dstAt ops j with | some t => t != s || ((o.after.toList.filter (Region.binds .any)).map (·.on)).contains j | none => true
def regSet (ops : Array Oper) (sz : Nat) : Bool :=
  (List.range ops.size).all fun i => ((ops[i]?).map fun o =>
    (match o.op with | .select _ _ => false | _ => true) &&
    (o.op.operands.toList.all fun x => match x with | .tmp s => decide (s < sz) && settled ops o s | _ => true) &&
    (match o.guard with | some (j, _) => (match dstAt ops j with | some s => decide (s < sz) && settled ops o s | none => true) | none => true)).getD true

/-- what operation i waits for -/
def afterOf (ops : Array Oper) (i : Nat) : List Nat := match ops[i]? with | some o => (o.after.toList.filter (Region.binds .any)).map (·.on) | none => []
/-- operation m is i, or waits for it (by at most so many steps) -/
def waits (ops : Array Oper) : Nat → Nat → Nat → Bool
  | 0, m, i => m == i
  | f + 1, m, i => m == i || (afterOf ops m).any fun j => waits ops f j i
theorem afterOf_out {ops : Array Oper} {m : Nat} (h : ¬ m < ops.size) : afterOf ops m = [] := by unfold afterOf; rw [Array.getElem?_eq_none (by omega)]
theorem waits_out {ops : Array Oper} : ∀ (f m i : Nat), ¬ m < ops.size → m ≠ i → waits ops f m i = false
  | 0, m, i, _, h => by unfold waits; simpa using h
  | f + 1, m, i, hm, h => by
    unfold waits
    rw [afterOf_out hm]
    simpa using h
theorem waits_in {ops : Array Oper} {L : Nat → Bool} (hc : ∀ j k, j < ops.size → L j = true → (afterOf ops j).contains k = true → L k = true) : ∀ (f m i : Nat), m < ops.size → L m = true → waits ops f m i = true → L i = true
  | 0, m, i, _, hm, h => by
    have e : m = i := by simpa [waits] using h
    rw [← e]; exact hm
  | f + 1, m, i, hs, hm, h => by
    unfold waits at h
    rw [Bool.or_eq_true] at h
    rcases h with h | h
    · have e : m = i := by simpa using h
      rw [← e]; exact hm
    · obtain ⟨j, hj, h⟩ := List.any_eq_true.1 h
      have hLj := hc m j hs hm (by simpa using hj)
      by_cases hjs : j < ops.size
      · exact waits_in hc f j i hjs hLj h
      · by_cases e : j = i
        · rw [← e]; exact hLj
        · rw [waits_out f j i hjs e] at h
          cases h

def yieldB : Value → Option Bool
  | .bool b => some b
  | _ => none
theorem yielded_at (ops : Array Oper) (tmps : Array Value) (j : Nat) : yielded ops tmps j = (match dstAt ops j with | some s => yieldB (tmps.getD s undef) | none => none) := by
  unfold yielded dstAt
  cases h : (ops[j]?).bind (·.dst) with
  | none => rfl
  | some s =>
    dsimp only [Option.bind]
    by_cases c : s < tmps.size
    · simp only [Array.getElem?_eq_getElem c, Array.getD, c, dif_pos]
      show _ = yieldB tmps[s]
      cases tmps[s] <;> rfl
    · simp only [Array.getElem?_eq_none (Nat.le_of_not_lt c), Array.getD, c, dif_neg, not_false_eq_true]
      simp [yieldB, undef]

section
variable {P : Program} {Q : Exit → Act → World → Prop} {ops : Array Oper} {a0 : Act}
/-- an operation yields v in this frame, in every world that meets S, and S holds behind it -/
def YieldsV (P : Program) (ops : Array Oper) (S : World → Prop) (o : Oper) (v : Value) (F : Act) (w : World) : Prop :=
  (Region.wanted o (yielded ops F.tmps) = false ∧ v = undef ∧ S w) ∨
  (Region.wanted o (yielded ops F.tmps) = true ∧ ∃ w', (execOp F.eval o).run P w = .ok (.value v) w' ∧ S w') ∨
  (Region.wanted o (yielded ops F.tmps) = true ∧ v = undef ∧ ∃ w', (execOp F.eval o).run P w = .ok .skip w' ∧ S w') ∨
  (Region.wanted o (yielded ops F.tmps) = true ∧ ∃ f args w', (execOp F.eval o).run P w = .ok (.enter f args) w' ∧ Calls P f args w' fun e w'' => e = .returned v ∧ S w'')

theorem settled_reads {L : Nat → Bool} {V vals : Nat → Value} (hd : ∀ i j s, dstAt ops i = some s → dstAt ops j = some s → i = j) {o : Oper} (s : Nat) (hs : s < a0.tmps.size) (h : settled ops o s = true)
    (hpre : ∀ k, ((o.after.toList.filter (Region.binds .any)).map (·.on)).contains k = true → L k = true) (hV : ∀ j, j < ops.size → L j = true → V j = vals j) (a : Act)
    (hev : ∀ j s, L j = true → dstAt ops j = some s → s < a0.tmps.size → j < ops.size → a.eval (.tmp s) = V j)
    (hold : ∀ s, s < a0.tmps.size → (∀ j, j < ops.size → dstAt ops j ≠ some s) → a.eval (.tmp s) = a0.eval (.tmp s)) :
    a.eval (.tmp s) = (fill ops (fun _ => true) vals a0 ops.size).eval (.tmp s) := by
  unfold settled at h
  have h := List.all_eq_true.1 h
  by_cases c : ∃ j, j < ops.size ∧ dstAt ops j = some s
  · obtain ⟨j, hj, hjs⟩ := c
    have h1 := h j (by simpa using hj)
    rw [hjs] at h1
    simp only [bne_self_eq_false, Bool.false_or] at h1
    have hL := hpre j h1
    rw [hev j s hL hjs hs hj, hV j hj hL]
    exact (fill_hit hd j s hs rfl hjs ops.size hj).symm
  · have hno : ∀ j, j < ops.size → dstAt ops j ≠ some s := fun j hj e => c ⟨j, hj, e⟩
    rw [hold s hs hno]
    exact (fill_old s hs ops.size hno).symm

theorem region_valsW {id n : Nat} (m f : Nat) (hm : P.follows .mixedOrders = true) (S : Bool → World → Prop) (vals : Nat → Value) (F : Act) {w0 : World} (hok : regOk ops = true) (hset : regSet ops a0.tmps.size = true)
    (h0 : S (decide (n ≤ m)) w0.drew) (hn : ops.size = n) (hF : fill ops (fun _ => true) vals a0 n = F)
    (hstep : ∀ (i : Nat) (o : Oper), ops[i]? = some o → ∀ c w, (waits ops f m i = true → c = false) → S c w → YieldsV P ops (S (if i = m then true else c)) o (vals i) F w)
    (hend : ∀ w, S true w → Q .normal F w) : (Code.region id ops true).wp P Q a0 w0 := by
  subst hn
  have hdst := regOk_dst hok
  refine region_inv (n := ops.size) hm (fun L V w => S (L m) w ∧ (∀ j, j < ops.size → L j = true → V j = vals j) ∧ ∀ j k, j < ops.size → L j = true → (afterOf ops j).contains k = true → L k = true) hok ⟨h0, fun j hj hL => by simp at hL; omega, fun j k hj hL _ => by simp at hL; omega⟩ ?_ rfl ?_
  · intro i o ho L V w hL hpre hI a hdef hev hold
    obtain ⟨hS, hV, hC⟩ := hI
    have hlt : i < ops.size := by
      by_cases c : i < ops.size
      · exact c
      · rw [Array.getElem?_eq_none (by omega)] at ho; cases ho
    unfold regSet at hset
    have hs := List.all_eq_true.1 hset i (by simpa using hlt)
    rw [ho] at hs
    simp only [Option.map_some, Option.getD_some, Bool.and_eq_true] at hs
    obtain ⟨⟨hsel, hops⟩, hgd⟩ := hs
    have hx : execOp a.eval o = execOp F.eval o := by
      refine execOp_congr o ?_ ?_
      · intro cs b e
        rw [e] at hsel
        cases hsel
      · intro x hx
        have h1 := List.all_eq_true.1 hops x (by simpa using hx)
        rw [← hF]
        cases x with
        | tmp s =>
          dsimp only at h1
          rw [Bool.and_eq_true, decide_eq_true_eq] at h1
          exact settled_reads hdst s h1.1 h1.2 hpre hV a hev hold
        | _ => rfl
    have hw : Region.wanted o (yielded ops a.tmps) = Region.wanted o (yielded ops F.tmps) := by
      unfold Region.wanted
      cases hg : o.guard with
      | none => rfl
      | some gw =>
        obtain ⟨g, want⟩ := gw
        dsimp only
        rw [yielded_at, yielded_at]
        rw [hg] at hgd
        dsimp only at hgd
        cases hds : dstAt ops g with
        | none => rfl
        | some s =>
          rw [hds] at hgd
          dsimp only at hgd ⊢
          rw [Bool.and_eq_true, decide_eq_true_eq] at hgd
          have h2 := settled_reads hdst s hgd.1 hgd.2 hpre hV a hev hold
          rw [hF] at h2
          have h3 : a.tmps.getD s undef = F.tmps.getD s undef := h2
          rw [h3]
    have hkeep : ∀ w', S (if i = m then true else L m) w' → S (Upd L i m) w' ∧ (∀ j, j < ops.size → Upd L i j = true → updV V i (vals i) j = vals j) ∧ ∀ j k, j < ops.size → Upd L i j = true → (afterOf ops j).contains k = true → Upd L i k = true := fun w' hS' => by
      have hU : Upd L i m = if i = m then true else L m := by
        unfold Upd
        by_cases c : i = m
        · rw [if_pos c, c]; simp
        · rw [if_neg c]; simp [show ¬ m = i from fun e => c e.symm]
      rw [hU]
      refine ⟨hS', fun j hj hU => ?_, fun j k hj hU hk => ?_⟩
      · unfold updV
        by_cases c : j = i
        · rw [if_pos c, c]
        · rw [if_neg c]
          exact hV j hj (by simpa [Upd, c] using hU)
      · by_cases c : j = i
        · have e : afterOf ops i = (o.after.toList.filter (Region.binds .any)).map (·.on) := by unfold afterOf; rw [ho]
          rw [c, e] at hk
          have := hpre k hk
          unfold Upd
          rw [this]
          rfl
        · have := hC j k hj (by simpa [Upd, c] using hU) hk
          unfold Upd
          rw [this]
          rfl
    have hd : dstAt ops i = o.dst := by unfold dstAt; rw [ho]; rfl
    have hy := hstep i o ho (L m) w (fun e => by
      cases hc : L m with
      | false => rfl
      | true =>
        by_cases hms : m < ops.size
        · rw [waits_in hC f m i hms hc e] at hL
          exact hL
        · exact absurd e (by rw [waits_out f m i hms (by omega)]; simp)) hS
    unfold wpOp
    simp only [ho]
    rw [hw, hd]
    rcases hy with ⟨h1, h2, h3⟩ | ⟨h1, w', h2, h3⟩ | ⟨h1, hv, w', h2, h3⟩ | ⟨h1, f, args, w', h2, h3⟩
    · rw [if_neg (by rw [h1]; simp)]
      exact ⟨undef, rfl, by rw [← h2]; exact hkeep w h3⟩
    · rw [if_pos h1]
      refine .inl ?_
      unfold Oper.wp
      rw [hx, h2]
      exact ⟨vals i, rfl, hkeep w' h3⟩
    · rw [if_pos h1]
      refine .inl ?_
      unfold Oper.wp
      rw [hx, h2]
      exact ⟨undef, rfl, by rw [← hv]; exact hkeep w' h3⟩
    · rw [if_pos h1]
      refine .inl ?_
      unfold Oper.wp
      rw [hx, h2, Oper.upon_enter]
      refine h3.mono ?_
      rintro e w'' ⟨rfl, hS'⟩
      exact ⟨vals i, rfl, hkeep w'' hS'⟩
  · intro V w hI
    have e : fill ops (fun _ => true) V a0 ops.size = F := by
      rw [← hF]
      exact fill_congr ops.size fun j hj => ⟨rfl, fun _ => hI.2.1 j hj rfl⟩
    rw [e]
    exact hend w hI.1

theorem region_vals1 {id n : Nat} (m : Nat) (hm : P.follows .mixedOrders = true) (S : Bool → World → Prop) (vals : Nat → Value) (F : Act) {w0 : World} (hok : regOk ops = true) (hset : regSet ops a0.tmps.size = true)
    (h0 : S (decide (n ≤ m)) w0.drew) (hn : ops.size = n) (hF : fill ops (fun _ => true) vals a0 n = F)
    (hstep : ∀ (i : Nat) (o : Oper), ops[i]? = some o → ∀ c w, (i = m → c = false) → S c w → YieldsV P ops (S (if i = m then true else c)) o (vals i) F w)
    (hend : ∀ w, S true w → Q .normal F w) : (Code.region id ops true).wp P Q a0 w0 :=
  region_valsW m 0 hm S vals F hok hset h0 hn hF (fun i o ho c w hc hS => hstep i o ho c w (fun e => hc (by rw [e]; simp [waits])) hS) hend

theorem region_vals {id n : Nat} (hm : P.follows .mixedOrders = true) (S : World → Prop) (vals : Nat → Value) (F : Act) {w0 : World} (hok : regOk ops = true) (hset : regSet ops a0.tmps.size = true)
    (h0 : S w0.drew) (hn : ops.size = n) (hF : fill ops (fun _ => true) vals a0 n = F)
    (hstep : ∀ (i : Nat) (o : Oper), ops[i]? = some o → ∀ w, S w → YieldsV P ops S o (vals i) F w)
    (hend : ∀ w, S w → Q .normal F w) : (Code.region id ops true).wp P Q a0 w0 :=
  region_vals1 n hm (fun _ => S) vals F hok hset h0 hn hF (fun i o ho _ w _ hS => hstep i o ho w hS) hend

/-- the same, the last frame reckoned by simp: 'simp only [fill, if_true, dstAt] at hF; simp [Act.put] at hF; subst hF' -/
theorem region_lits1 {id n : Nat} (m f : Nat) (hm : P.follows .mixedOrders = true) (S : Bool → World → Prop) (vals : Nat → Value) {w0 : World} (hok : regOk ops = true) (hset : regSet ops a0.tmps.size = true)
    (h0 : S (decide (n ≤ m)) w0.drew) (hn : ops.size = n)
    (h : ∀ F, fill ops (fun _ => true) vals a0 n = F → (∀ (i : Nat) (o : Oper), ops[i]? = some o → ∀ c w, (waits ops f m i = true → c = false) → S c w → YieldsV P ops (S (if i = m then true else c)) o (vals i) F w) ∧ ∀ w, S true w → Q .normal F w) : (Code.region id ops true).wp P Q a0 w0 :=
  have hh := h _ rfl
  region_valsW m f hm S vals _ hok hset h0 hn rfl hh.1 hh.2
theorem region_lits {id n : Nat} (hm : P.follows .mixedOrders = true) (S : World → Prop) (vals : Nat → Value) {w0 : World} (hok : regOk ops = true) (hset : regSet ops a0.tmps.size = true)
    (h0 : S w0.drew) (hn : ops.size = n)
    (h : ∀ F, fill ops (fun _ => true) vals a0 n = F → (∀ (i : Nat) (o : Oper), ops[i]? = some o → ∀ w, S w → YieldsV P ops S o (vals i) F w) ∧ ∀ w, S w → Q .normal F w) : (Code.region id ops true).wp P Q a0 w0 :=
  have hh := h _ rfl
  region_vals hm S vals _ hok hset h0 hn rfl hh.1 hh.2

theorem yv_val {S : World → Prop} {o : Oper} {v : Value} {F : Act} {w : World} (hw : Region.wanted o (yielded ops F.tmps) = true) (hS : S w) (hr : (execOp F.eval o).run P w = .ok (.value v) w) : YieldsV P ops S o v F w := .inr (.inl ⟨hw, w, hr, hS⟩)
theorem yv_skip {S : World → Prop} {o : Oper} {F : Act} {w w' : World} (hw : Region.wanted o (yielded ops F.tmps) = true) (hS : S w') (hr : (execOp F.eval o).run P w = .ok .skip w') : YieldsV P ops S o undef F w := .inr (.inr (.inl ⟨hw, rfl, w', hr, hS⟩))
theorem yv_store {S : World → Prop} {o : Oper} {F : Act} {w : World} (hw : Region.wanted o (yielded ops F.tmps) = true) (T : TypeId) (x y : Operand) (hop : o.op = .store T x y) (g : Nat) (cells : Array Value) (hx : F.eval x = .pointer (some ⟨g, 0, none⟩)) (hy : F.eval y = .agg cells)
    {t : TypeId} {old : Array Value} (R : Row w g old t) (hi : (P.info? T).map (·.size) = some cells.size) (hold : old.size = cells.size) (h1 : cells.all (·.oneCell') = true) (h : ∀ w1, Row w1 g cells t → Stored w g w1 → S w1) : YieldsV P ops S o undef F w := by
  refine yv_skip hw (h _ (setRow_heap w g old cells t _ R) (stored_setRow w g cells)) ?_
  unfold execOp
  simp only [hop, hx, hy, Instr.storeAt, Instr.sureAddr, Sem.run_bind, Sem.run_pure, Result.andThen_ok, run_storeVar_row w g t T old cells R hi hold h1]
theorem yv_no {S : World → Prop} {o : Oper} {F : Act} {w : World} (hw : Region.wanted o (yielded ops F.tmps) = false) (hS : S w) : YieldsV P ops S o undef F w := .inl ⟨hw, rfl, hS⟩
theorem yv_load {S : World → Prop} {o : Oper} {F : Act} {w : World} (hw : Region.wanted o (yielded ops F.tmps) = true) (hS : S w) (T : TypeId) (x : Operand) (hop : o.op = .load T x) (b q : Nat) (hx : F.eval x = .pointer (some ⟨b, q, none⟩)) {cs : List Value} {d : TypeDesc}
    (hr : w.rangeAt b q cs) (hu : P.underlying T = some d) (hd : d.isRow = true) (hi : (P.info? T).map (·.size) = some cs.length) : YieldsV P ops S o (.agg cs.toArray) F w := by
  refine yv_val hw hS ?_
  unfold execOp
  simp only [hop, hx, Sem.run_bind, run_loadAt_mid w b q T cs d hr hu hd hi, Result.andThen_ok]
  rfl
theorem yv_load_row {S : World → Prop} {o : Oper} {F : Act} {w : World} (hw : Region.wanted o (yielded ops F.tmps) = true) (hS : S w) (T : TypeId) (x : Operand) (hop : o.op = .load T x) (g : Nat) (hx : F.eval x = .pointer (some ⟨g, 0, none⟩)) {cs : Array Value} {t : TypeId} (R : Row w g cs t) {d : TypeDesc}
    (hu : P.underlying T = some d) (hd : d.isRow = true) (hi : (P.info? T).map (·.size) = some cs.size) : YieldsV P ops S o (.agg cs) F w := by
  have h := yv_load (P := P) (cs := cs.toList) hw hS T x hop g 0 hx (fun j v hv => by
    rw [Nat.zero_add, R.cell j]
    simpa using hv) hu hd (by simpa using hi)
  simpa using h
theorem yv_call {S : World → Prop} {o : Oper} {v : Value} {F : Act} {w : World} (hw : Region.wanted o (yielded ops F.tmps) = true)
    {f : FuncId} {fn : Func} {ars : Array Operand} {ts : Array TypeId} (hop : o.op = .call { callee := .value (.func f), args := ars, argTypes := ts }) (hf : P.funcs[f]? = some fn) (hname : (fn.name == "runtime.NumGoroutine") = false) (hb : fn.body.isSome = true)
    (args : Array Value) (hargs : ars.map F.eval = args) (h : Calls P f args w fun e w' => e = .returned v ∧ S w') : YieldsV P ops S o v F w := by
  refine .inr (.inr (.inr ⟨hw, f, args, w, ?_, h⟩))
  have he : (callFunc f args).run P w = .ok (.enter f args) w := by
    have h1 : fn.name ≠ "runtime.NumGoroutine" := by simpa using hname
    obtain ⟨c, hc⟩ := Option.isSome_iff_exists.1 hb
    simp [callFunc, hf, h1, hc]
  unfold execOp
  simp [hop, resolve, Deferred.ofValue, invoke, Act.eval, hargs, he]
end
end Go.Proofs.YtahagfdjpldblaaGreatDoor

namespace Go.Proofs.YtahagfdjpldblaaGreatDoor
open Go.RowKit Ky
set_option linter.unusedVariables false
set_option linter.unusedSimpArgs false

theorem key_eq (a b : K) : a = b ↔ ((a.a : Int) = b.a ∧ (a.e : Int) = b.e ∧ (a.p : Int) = b.p) := by
  cases a; cases b
  simp
  omega
theorem key_if (a b : K) {α : Type} (r s : α) : (if (a.a : Int) = (b.a : Int) then if (a.e : Int) = (b.e : Int) then if (a.p : Int) = (b.p : Int) then r else s else s else s) = if a = b then r else s := by
  have h := key_eq a b
  by_cases h1 : (a.a : Int) = b.a
  · by_cases h2 : (a.e : Int) = b.e
    · by_cases h3 : (a.p : Int) = b.p
      · simp [h1, h2, h3, h]
      · simp [h1, h2, h3, h]
    · simp [h1, h2, h]
  · simp [h1, h]
theorem eq_key (a b : K) (d : Nat) (w : World) : (Op.equalIn (d + 2) 29 (.agg #[.int .u32 (a.a : Int), .int .u16 (a.e : Int), .int .u16 (a.p : Int)]) (.agg #[.int .u32 (b.a : Int), .int .u16 (b.e : Int), .int .u16 (b.p : Int)])).run Tryz.prog w = .ok (decide (a = b)) w := by
  have h := key_eq a b
  go_simp
  by_cases h1 : (a.a : Int) = b.a
  · by_cases h2 : (a.e : Int) = b.e
    · by_cases h3 : (a.p : Int) = b.p
      · simp [h1, h2, h3, h]
      · simp [h1, h2, h3, h]
    · simp [h1, h2, h]
  · simp [h1, h]
theorem eq_key10 (a b : K) (w : World) : (Op.equalIn 10000 29 (.agg #[.int .u32 (a.a : Int), .int .u16 (a.e : Int), .int .u16 (a.p : Int)]) (.agg #[.int .u32 (b.a : Int), .int .u16 (b.e : Int), .int .u16 (b.p : Int)])).run Tryz.prog w = .ok (decide (a = b)) w := eq_key a b 9998 w
theorem pair_eq (c x : K × K) : decide (c = x) = (decide (c.1 = x.1) && decide (c.2 = x.2)) := by
  obtain ⟨a, b⟩ := c
  obtain ⟨d, e⟩ := x
  simp [Bool.decide_and]
theorem eq_pair (c x : K × K) (w : World) : (Op.equalIn 10000 49 (.agg (pc c).toArray) (.agg (pc x).toArray)).run Tryz.prog w = .ok (decide (c = x)) w := by
  obtain ⟨i, hi⟩ : ∃ i, Tryz.prog.info? 29 = some i := info_of_underlying Tryz.underlying29
  have c0 : Tryz.prog.cellsOf 29 = 3 := by kernel_rfl
  rw [show 10000 = 9999 + 1 from rfl, run_equalIn_array w 9999 _ _ Tryz.underlying49 hi, c0]
  have e1 := fun w => eq_key c.1 x.1 9997 w
  have e2 := fun w => eq_key c.2 x.2 9997 w
  rw [show 9997 + 2 = 9999 from rfl] at e1 e2
  have p1 : ∀ (y : K × K) (w : World), (Go.part 29 (pc y).toArray (0 * 3)).run Tryz.prog w = .ok (.agg #[.int .u32 (y.1.a : Int), .int .u16 (y.1.e : Int), .int .u16 (y.1.p : Int)]) w := fun y w => by
    unfold pc
    go_simp
  have p2 : ∀ (y : K × K) (w : World), (Go.part 29 (pc y).toArray (1 * 3)).run Tryz.prog w = .ok (.agg #[.int .u32 (y.2.a : Int), .int .u16 (y.2.e : Int), .int .u16 (y.2.p : Int)]) w := fun y w => by
    unfold pc
    go_simp
  rw [pair_eq]
  show (Op.eqItems 9999 29 3 (pc c).toArray (pc x).toArray [0, 1]).run Tryz.prog w = _
  simp only [Op.eqItems, Sem.run_bind, p1, Result.andThen_ok, e1]
  cases decide (c.1 = x.1)
  · simp
  · simp only [Bool.not_true, Bool.false_eq_true, if_false, Sem.run_bind, p2, Result.andThen_ok, e2]
    cases decide (c.2 = x.2) <;> simp
theorem eql_key (a b : K) {ρ : Operand → Value} {o : Oper} {x y : Operand} (hop : o.op = .binOp .eql 29 x y 29) (hx : ρ x = .agg #[.int .u32 (a.a : Int), .int .u16 (a.e : Int), .int .u16 (a.p : Int)]) (hy : ρ y = .agg #[.int .u32 (b.a : Int), .int .u16 (b.e : Int), .int .u16 (b.p : Int)])
    {r : Bool} (hr : decide (a = b) = r) (w : World) : (execOp ρ o).run Tryz.prog w = .ok (.value (.bool r)) w := by
  have he := eq_key a b 9998 w
  rw [show 9998 + 2 = 10000 from rfl] at he
  have hm : Tryz.prog.eqGuardType Tryz.prog.depth 29 = false := by kernel_rfl
  unfold execOp
  simp only [hop, hx, hy, Sem.run_bind, run_eqGuard_agg w _ _ _ _ _ _ hm, Result.andThen_ok, run_eql_struct, he, hr]
  rfl
end Go.Proofs.YtahagfdjpldblaaGreatDoor
