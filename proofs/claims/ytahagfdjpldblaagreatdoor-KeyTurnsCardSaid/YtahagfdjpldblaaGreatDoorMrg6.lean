/-
  Own texts, several in one (Clone, ShareS, Arr).
-/
import Derived.Test.YtahagfdjpldblaaGreatDoorMrg5
import Derived.Test.YtahagfdjpldblaaGreatDoorShelf
import Derived.Maps.AppendAt
import Derived.Test.YtahagfdjpldblaaGreatDoorMrg1
import Derived.Laws.Tables
namespace Go.Proofs.YtahagfdjpldblaaGreatDoor
open Go.RowKit
set_option linter.unusedVariables false
set_option linter.unusedSimpArgs false

def iv (zs : List Int) : List Value := zs.map (Value.int .i64)
theorem iv_one (zs : List Int) : ∀ u ∈ iv zs, u.oneCell' = true := by
  intro u hu
  obtain ⟨z, _, rfl⟩ := List.mem_map.1 hu
  rfl
theorem iv_cell {w : World} {b off : Nat} {zs : List Int} (h : Nums w b off zs) : ∀ j u, (iv zs)[j]? = some u → w.cell? ⟨b, off + j, none⟩ = some u := by
  intro j u hj
  unfold iv at hj
  rw [List.getElem?_map] at hj
  obtain ⟨z, hz, rfl⟩ := Option.map_eq_some_iff.1 hj
  have hlt : j < zs.length := (List.getElem?_eq_some_iff.1 hz).1
  have := h j hlt
  rwa [List.getD_eq_getElem?_getD, hz] at this
theorem own_mono {w : World} {B B' : Nat} {e : TypeId} {size n : Nat} {v : Value} {xs : List Value} (h : w.ownsRow B e size v n xs) (hb : B' ≤ B) : w.ownsRow B' e size v n xs := by
  obtain ⟨h1, h2⟩ := h
  refine ⟨h1, ?_⟩
  rcases h2 with h2 | ⟨g, cap, cur, e1, e2, e3⟩
  · exact .inl h2
  · exact .inr ⟨g, cap, cur, e1, Nat.le_trans hb e2, e3⟩
/-- a slice of its own of these numbers is a slice of these numbers -/
theorem nums_of_own {w : World} {B : Nat} {e : TypeId} {v : Value} {n : Nat} {zs : List Int} (h : w.ownsRow B e 1 v n (iv zs)) (hz : ∀ z ∈ zs, Wd.I64 z) : ∃ a cap, v = .slice a n cap ∧ IsNums w a n zs := by
  obtain ⟨h1, h2⟩ := h
  have hl : zs.length = n := by simpa [iv] using h1
  rcases h2 with ⟨rfl, rfl⟩ | ⟨g, cap, cur, rfl, _, hh, _, _, hs, ht⟩
  · exact ⟨none, 0, rfl, hl, hz, .inl rfl⟩
  · refine ⟨_, cap, rfl, hl, hz, .inr ⟨g, 0, rfl, fun i hi => ?_⟩⟩
    rw [cell_of_row w g (0 + i) cur e _ hh, Nat.zero_add]
    have e1 : (iv zs)[i]? = some (.int .i64 (zs.getD i 0)) := by
      unfold iv
      rw [List.getElem?_map, List.getElem?_eq_getElem hi]
      simp [List.getD_eq_getElem?_getD, hi]
    rw [← ht, Nat.mul_one, List.getElem?_take, if_pos (by omega)] at e1
    simpa using e1
theorem info_i64 : ∃ i, Tryz.prog.info? 2 = some i ∧ i.zero = some (.int .i64 0) ∧ i.size = 1 ∧ i.bytes = 8 := by
  have h : (Tryz.prog.info? 2).map (fun i => (i.zero, i.size, i.bytes)) = some (some (.int .i64 0), 1, 8) := by kernel_rfl
  obtain ⟨i, hi, h⟩ := Option.map_eq_some_iff.1 h
  simp only [Prod.mk.injEq] at h
  exact ⟨i, hi, h.1, h.2.1, h.2.2⟩
section
variable {w W : World}
theorem step_append {ops : Array Oper} {o : Oper} {a : Act} {K : Act → World → Prop} {Q : Exit → Act → World → Prop} {E : Prop} (hgd : o.guard = none) (s x : Operand)
    (ho : o.op = .call { callee := .builtin .append, args := #[s, x], argTypes := #[80, 80] })
    (hB : Below w.heap.size w W) (v : Value) (n : Nat) (xs : List Int) (hs : a.eval s = v) (hown : W.ownsRow w.heap.size 2 1 v n (iv xs))
    (b off m c : Nat) (zs : List Int) (hx : a.eval x = .slice (some ⟨b, off, none⟩) m c) (hl : zs.length = m) (hz : Nums W b off zs) (hn : n + m ≤ 1000)
    (h : ∀ v' w', w'.ownsRow w.heap.size 2 1 v' (n + m) (iv (xs ++ zs)) → Below w.heap.size w w' → K (a.put o.dst v') w') :
    if Region.wanted o (yielded ops a.tmps) = true then Oper.wp Tryz.prog o a W K Q else E := by
  have hw : Region.wanted o (yielded ops a.tmps) = true := by simp [Region.wanted, hgd]
  rw [if_pos hw]
  obtain ⟨i, hi, h1, h2, h3⟩ : ∃ i, Tryz.prog.info? 2 = some i ∧ i.zero = some (.int .i64 0) ∧ i.size = 1 ∧ i.bytes = 8 := info_i64
  have hadd : ∀ j, (⟨b, off, none⟩ : Addr).add j = ⟨b, off + j, none⟩ := fun j => by simp [Addr.add]
  obtain ⟨v', w', hr, k2, k3, k4, k5⟩ := run_append_own_at (P := Tryz.prog) W w.heap.size 80 o.type 2 i (.int .i64 0) 1 8 Tryz.underlying80 hi h1 h2 h3 rfl (by omega) v n (iv xs) hown ⟨b, off, none⟩ m c (iv zs) (by simp [iv, hl]) (fun j u hj => by rw [hadd]; exact iv_cell hz j u hj) (iv_one zs) (by unfold maxLen; omega) (by omega) hB.size
  unfold Oper.wp execOp
  simp only [ho, resolve, invoke, builtin, Sem.run_bind, Sem.run_pure, Result.andThen_ok, List.map_toArray, List.map_cons, List.map_nil, hs, hx, hr]
  refine h v' w' (by unfold iv at k2 ⊢; rwa [List.map_append]) (hB.grown k3 hB.size ?_)
  intro k hk
  rcases hown.2 with ⟨rfl, _⟩ | ⟨g, cap, cur, rfl, hg, _⟩
  · simp [Value.ownBlock] at hk
  · simp [Value.ownBlock] at hk
    omega
theorem list_append {ops : Array Oper} {rest : List Oper} {o : Oper} {a : Act} {Q : Exit → Act → World → Prop} (hgd : o.guard = none) (s x : Operand)
    (ho : o.op = .call { callee := .builtin .append, args := #[s, x], argTypes := #[80, 80] })
    (hB : Below w.heap.size w W) (v : Value) (n : Nat) (xs : List Int) (hs : a.eval s = v) (hown : W.ownsRow w.heap.size 2 1 v n (iv xs))
    (b off m c : Nat) (zs : List Int) (hx : a.eval x = .slice (some ⟨b, off, none⟩) m c) (hl : zs.length = m) (hz : Nums W b off zs) (hn : n + m ≤ 1000)
    (h : ∀ v' w', w'.ownsRow w.heap.size 2 1 v' (n + m) (iv (xs ++ zs)) → Below w.heap.size w w' → wpList Tryz.prog ops Q rest (a.put o.dst v') w') :
    wpList Tryz.prog ops Q (o :: rest) a W := by
  obtain ⟨i, hi, h1, h2, h3⟩ : ∃ i, Tryz.prog.info? 2 = some i ∧ i.zero = some (.int .i64 0) ∧ i.size = 1 ∧ i.bytes = 8 := info_i64
  have hadd : ∀ j, (⟨b, off, none⟩ : Addr).add j = ⟨b, off + j, none⟩ := fun j => by simp [Addr.add]
  refine wpList_append_own_at W hgd s x 80 ho w.heap.size 2 i (.int .i64 0) 1 8 Tryz.underlying80 hi h1 h2 h3 rfl (by omega) v n (iv xs) hs hown ⟨b, off, none⟩ m c (iv zs) hx (by simp [iv, hl]) (fun j u hj => by rw [hadd]; exact iv_cell hz j u hj) (iv_one zs) (by unfold maxLen; omega) (by omega) hB.size ?_
  intro v' w' k2 k3 k4 k5
  refine h v' w' (by unfold iv at k2 ⊢; rwa [List.map_append]) (hB.grown k3 hB.size ?_)
  intro k hk
  rcases hown.2 with ⟨rfl, _⟩ | ⟨g, cap, cur, rfl, hg, _⟩
  · simp [Value.ownBlock] at hk
  · simp [Value.ownBlock] at hk
    omega
end
theorem own_alloc {w : World} {B : Nat} {e : TypeId} {size n : Nat} {v : Value} {xs : List Value} (h : w.ownsRow B e size v n xs) (o : Obj) : (w.alloc o).ownsRow B e size v n xs := by
  obtain ⟨h1, h2⟩ := h
  refine ⟨h1, ?_⟩
  rcases h2 with h2 | ⟨g, cap, cur, e1, e2, e3, e4⟩
  · exact .inl h2
  · have hlt : g < w.heap.size := by
      by_cases c : g < w.heap.size
      · exact c
      · rw [Array.getElem?_eq_none (by omega)] at e3; cases e3
    refine .inr ⟨g, cap, cur, e1, e2, ?_, e4⟩
    show (w.heap.push o)[g]? = _
    rw [Array.getElem?_push, if_neg (by omega)]
    exact e3
end Go.Proofs.YtahagfdjpldblaaGreatDoor

namespace Go.Proofs.YtahagfdjpldblaaGreatDoor
open Go.RowKit
set_option linter.unusedVariables false
set_option linter.unusedSimpArgs false

/-- the sizes of a slice lie in memory -/
def NumsU (w : World) (b off : Nat) (zs : List Nat) : Prop := ∀ i, i < zs.length → w.cell? ⟨b, off + i, none⟩ = some (.int .u64 ((zs.getD i 0 : Nat) : Int))
theorem NumsU.below {w w' : World} {b off : Nat} {zs : List Nat} (h : NumsU w b off zs) (hb : Below w.heap.size w w') : NumsU w' b off zs := fun i hi => cell_then (h i hi) hb
theorem map_take_succ {α β : Type} (f : α → β) (zs : List α) (k : Nat) (d : α) (h : k < zs.length) : (zs.take (k + 1)).map f = (zs.take k).map f ++ [f (zs.getD k d)] := by
  rw [List.take_succ_eq_append_getElem h, List.map_append]; simp [List.getD_eq_getElem?_getD, h]
theorem nums_one {w : World} {b : Nat} {z : Int} (h : w.cell? ⟨b, 0, none⟩ = some (.int .i64 z)) : Nums w b 0 [z] := by
  intro i hi
  have : i = 0 := by simp at hi; omega
  subst this
  simpa using h
def sgn (m : Bool) (n : Nat) : Int := if m then -(n : Int) else (n : Int)

set_option maxHeartbeats 2000000 in
theorem signed_any (m : Bool) (b n cap : Nat) (os : List Nat) (w : World) (hn : NumsU w b 0 os) (hl : os.length = n) (hn8 : n ≤ 8) (ho : ∀ i, os.getD i 0 ≤ 9223372036854775807 ∨ (m = true ∧ os.getD i 0 ≤ 9223372036854775808)) :
    Calls Tryz.prog 55 #[.slice (some ⟨b, 0, none⟩) n cap, .bool m] w fun e w' => ∃ v, e = .returned v ∧ w'.ownsRow w.heap.size 2 1 v n (iv (os.map (sgn m))) ∧ Below w.heap.size w w' := by
  have HN := Lib.hid hn
  have HO := Lib.hid ho
  clear hn ho
  cases m
  all_goals
    go_enter Tryz.func55, Tryz.ntmps55
    go_wp2_with fail
  · go_loopw [5, 10] (fun v i wr => ∃ k : Nat, k ≤ n ∧ i = .int .i64 k ∧ wr.ownsRow w.heap.size 2 1 v k (iv ((os.take k).map (sgn false))) ∧ Below w.heap.size w wr) (fun _ i _ => n - (intOf i).toNat)
    case atStart => exact ⟨0, by omega, rfl, ⟨rfl, .inl ⟨rfl, rfl⟩⟩, Below.refl _ _⟩
    case round =>
      obtain ⟨k, hk, rfl, hown, BB⟩ := hrel
      by_cases hlt : k < n
      · have hkz : k < os.length := by omega
        have hc : wr.cell? ⟨b, k, none⟩ = some (.int .u64 ((os.getD k 0 : Nat) : Int)) := by
          have h1 := HN.out k hkz
          rw [Nat.zero_add] at h1
          exact (BB.cell (block_lt_of_cell h1)).trans h1
        have hz : os.getD k 0 ≤ 9223372036854775807 := by
          rcases HO.out k with h | ⟨h, h'⟩ <;> first | omega | cases h
        have HM := Lib.hid (map_take_succ (sgn false) os k 0 hkz)
        generalize os.getD k 0 = z at *
        have e1 : IntKind.i64.wrap (z : Int) = sgn false z := by unfold sgn; rw [IntKind.wrap_i64]; simp; omega
        go_wp2_with (at_builtin; refine list_append rfl _ _ rfl (below_alloc BB _) _ k _ rfl (own_alloc hown _) wr.heap.size 0 1 1 [sgn false z] rfl rfl (nums_one ((Row.new wr _ _).cell 0)) (by omega) ?_; intro v2 w2 hown2 hB2)
        go_roundw
        case rel => exact ⟨k + 1, by omega, by go_num, by rw [HM.out]; exact hown2, hB2⟩
        case measure => simp [intOf]; omega
      · have hk0 : k = n := by omega
        subst hk0
        rw [List.take_of_length_le (by omega)] at hown
        go_wp2
        go_ret
        exact ⟨_, rfl, hown, BB⟩
  · go_loopw [5, 10] (fun v i wr => ∃ k : Nat, k ≤ n ∧ i = .int .i64 k ∧ wr.ownsRow w.heap.size 2 1 v k (iv ((os.take k).map (sgn true))) ∧ Below w.heap.size w wr) (fun _ i _ => n - (intOf i).toNat)
    case atStart => exact ⟨0, by omega, rfl, ⟨rfl, .inl ⟨rfl, rfl⟩⟩, Below.refl _ _⟩
    case round =>
      obtain ⟨k, hk, rfl, hown, BB⟩ := hrel
      by_cases hlt : k < n
      · have hkz : k < os.length := by omega
        have hc : wr.cell? ⟨b, k, none⟩ = some (.int .u64 ((os.getD k 0 : Nat) : Int)) := by
          have h1 := HN.out k hkz
          rw [Nat.zero_add] at h1
          exact (BB.cell (block_lt_of_cell h1)).trans h1
        have hz : os.getD k 0 ≤ 9223372036854775808 := by
          rcases HO.out k with h | ⟨h, h'⟩ <;> first | omega | cases h
        have HM := Lib.hid (map_take_succ (sgn true) os k 0 hkz)
        generalize os.getD k 0 = z at *
        have e1 : IntKind.i64.wrap (IntKind.u64.wrap (-(z : Int))) = sgn true z := by unfold sgn; rw [IntKind.wrap_i64, IntKind.wrap_u64]; simp; omega
        go_wp2_with (at_builtin; refine list_append rfl _ _ rfl (below_alloc BB _) _ k _ rfl (own_alloc hown _) wr.heap.size 0 1 1 [sgn true z] rfl rfl (nums_one ((Row.new wr _ _).cell 0)) (by omega) ?_; intro v2 w2 hown2 hB2)
        go_roundw
        case rel => exact ⟨k + 1, by omega, by go_num, by rw [HM.out]; exact hown2, hB2⟩
        case measure => simp [intOf]; omega
      · have hk0 : k = n := by omega
        subst hk0
        rw [List.take_of_length_le (by omega)] at hown
        go_wp2
        go_ret
        exact ⟨_, rfl, hown, BB⟩
end Go.Proofs.YtahagfdjpldblaaGreatDoor

namespace Go.Proofs.YtahagfdjpldblaaGreatDoor
open Go.RowKit
set_option linter.unusedVariables false
set_option linter.unusedSimpArgs false

/-- n numbers as cells -/
def vec (n : Nat) (f : Nat → Int) : Array Value := (Array.range n).map fun i => .int .i64 (f i)
theorem vec_size (n : Nat) (f : Nat → Int) : (vec n f).size = n := by simp [vec]
theorem vec_get (n : Nat) (f : Nat → Int) (i : Nat) (h : i < n) : (vec n f)[i]? = some (.int .i64 (f i)) := by simp [vec, h]
theorem vec_congr {n : Nat} {f g : Nat → Int} (h : ∀ i, i < n → f i = g i) : vec n f = vec n g := by
  unfold vec
  apply Array.ext
  · simp
  · intro i h1 h2
    simp at h1
    simp [h i h1]
theorem vec_set (n : Nat) (f : Nat → Int) (k : Nat) (x : Int) : (vec n f).setIfInBounds k (.int .i64 x) = vec n (fun i => if i = k then x else f i) := by
  apply Array.ext_getElem?
  intro i
  rw [Array.getElem?_setIfInBounds]
  by_cases e : k = i
  · subst e
    by_cases hk : k < n
    · have e2 := vec_get n (fun i => if i = k then x else f i) k hk
      rw [e2]; simp [vec_size, hk]
    · simp [vec, hk]
  · have e' : ¬ i = k := fun h => e h.symm
    simp [vec, e, e', Array.getElem?_map]
    by_cases hk : i < n
    · simp [hk, e']
    · simp [hk]
theorem vec_one (n : Nat) (f : Nat → Int) : (vec n f).all (·.oneCell') = true := by
  rw [Array.all_eq_true_iff_forall_mem]; intro v hv; simp [vec] at hv; obtain ⟨i, _, rfl⟩ := hv; rfl
theorem vec_zero (n : Nat) : Array.replicate n (Value.int .i64 0) = vec n (fun _ => 0) := by
  unfold vec; apply Array.ext <;> simp

theorem Row.fill {W : World} {g k n : Nat} {f f' : Nat → Int} {x : Int} {t : TypeId} (R : Row W g (vec n f) t) (h : ∀ i, i < n → (if i = k then x else f i) = f' i) : Row (W.setCell ⟨g, k, none⟩ (.int .i64 x)) g (vec n f') t := by
  have h1 := R.set k (.int .i64 x)
  rw [vec_set, vec_congr h] at h1
  exact h1
theorem Row.as {W : World} {g n : Nat} {f f' : Nat → Int} {t : TypeId} (R : Row W g (vec n f) t) (h : ∀ i, i < n → f i = f' i) : Row W g (vec n f') t := vec_congr h ▸ R

theorem fill_step (F : Nat → Int) (G : Nat → Int) (k i : Nat) : (if i = k then F k else if i < k then F i else G i) = if i < k + 1 then F i else G i := by
  by_cases e : i = k
  · subst e; simp
  · rw [if_neg e]
    by_cases e2 : i < k
    · rw [if_pos e2, if_pos (by omega)]
    · rw [if_neg e2, if_neg (by omega)]
theorem below_dr {B : Nat} {w W : World} (h : Below B w W) : Below B w W.drew := ⟨h.os, h.tape, h.output, h.size, h.block⟩
theorem below_dN {B : Nat} {w W : World} (h : Below B w W) (n : Nat) : Below B w (W.drewN n) := ⟨h.os, h.tape, h.output, h.size, h.block⟩

section
variable {P : Program} {ops : Array Oper} {rest : List Oper} {o : Oper} {a : Act} {Q : Exit → Act → World → Prop} {W : World}
theorem ev_box {N : Tmp} (hd : o.dst = some N) (hgd : o.guard = none) (T : TypeId) (x : Operand) (ho : o.op = .box T x) (cs : Array Value) (hx : a.eval x = .agg cs)
    (h : ∀ g w1, W.heap.size ≤ g → Row w1 g cs T → Below W.heap.size W w1 → wpList P ops Q rest (a.put o.dst (.pointer (some ⟨g, 0, none⟩))) w1) : wpList P ops Q (o :: rest) a W := by
  refine wpList_plain hgd fun K hK => ?_
  unfold Oper.wp execOp
  simp only [ho, hx]
  exact hK _ _ (h W.heap.size (W.alloc (.cells cs T)) (Nat.le_refl _) (Row.new W cs T) ((Below.refl _ _).alloc (Nat.le_refl _) _))
theorem ev_alloc {N : Tmp} (hd : o.dst = some N) (hgd : o.guard = none) (T : TypeId) (ho : o.op = .alloc T) (cs : Array Value) (hz : ∀ w : World, (zeroValue T).run P w = .ok (.agg cs) w)
    (h : ∀ g w1, W.heap.size ≤ g → Row w1 g cs T → Below W.heap.size W w1 → wpList P ops Q rest (a.put o.dst (.pointer (some ⟨g, 0, none⟩))) w1) : wpList P ops Q (o :: rest) a W := by
  refine wpList_plain hgd fun K hK => ?_
  unfold Oper.wp execOp
  simp only [ho, Instr.alloc, Sem.run_bind, hz, Result.andThen_ok]
  exact hK _ _ (h W.heap.size (W.alloc (.cells cs T)) (Nat.le_refl _) (Row.new W cs T) ((Below.refl _ _).alloc (Nat.le_refl _) _))
theorem ev_load {N : Tmp} (hd0 : o.dst = some N) (hgd : o.guard = none) (T : TypeId) (x : Operand) (ho : o.op = .load T x) (g : Nat) (hx : a.eval x = .pointer (some ⟨g, 0, none⟩)) {cs : Array Value} {t : TypeId} (R : Row W g cs t)
    (d : TypeDesc) (hu : P.underlying T = some d) (hd : (match d with | .struct _ | .array _ _ => true | _ => false) = true) (hi : (P.info? T).map (·.size) = some cs.size)
    (h : wpList P ops Q rest (a.put o.dst (.agg cs)) W) : wpList P ops Q (o :: rest) a W :=
  wpList_load_row hgd T x ho g hx t cs (0, 0) d R hu hd hi h
/-- the same behind a guard that is met -/
theorem ev_load_g {N : Tmp} (hd0 : o.dst = some N) (hgd : Region.wanted o (yielded ops a.tmps) = true) (T : TypeId) (x : Operand) (ho : o.op = .load T x) (g : Nat) (hx : a.eval x = .pointer (some ⟨g, 0, none⟩)) {cs : Array Value} {t : TypeId} (R : Row W g cs t)
    (d : TypeDesc) (hu : P.underlying T = some d) (hd : (match d with | .struct _ | .array _ _ => true | _ => false) = true) (hi : (P.info? T).map (·.size) = some cs.size)
    (h : wpList P ops Q rest (a.put o.dst (.agg cs)) W) : wpList P ops Q (o :: rest) a W := by
  refine wpList_step fun K hK => ?_
  rw [if_pos hgd]
  exact wp_load_row T x ho g hx t cs (0, 0) d R hu hd hi (hK _ _ h)
/-- what is so of a world behind a store of a whole row -/
structure Stored (W : World) (g : Nat) (w1 : World) : Prop where
  other : ∀ k, k ≠ g → w1.heap[k]? = W.heap[k]?
  size : w1.heap.size = W.heap.size
  os : w1.os = W.os
  tape : w1.tape = W.tape
  output : w1.output = W.output
theorem Stored.below {B : Nat} {W : World} {g : Nat} {w0 w1 : World} (h : Stored W g w1) (hB : Below B w0 W) (hg : B ≤ g) : Below B w0 w1 :=
  hB.trans ⟨h.os, h.tape, h.output, by rw [h.size]; exact Nat.le_refl _, fun k hk => h.other k (by omega)⟩
theorem Row.stored {W : World} {g g' : Nat} {w1 : World} {cs : Array Value} {t : TypeId} (R : Row W g' cs t) (h : Stored W g w1) (hn : g' ≠ g) : Row w1 g' cs t := (h.other g' hn).trans R
theorem stored_setRow (W : World) (g : Nat) (cells : Array Value) : Stored W g (W.setRow g cells) := by
  refine ⟨fun k hk => ?_, size_setRow _ _ _, rfl, rfl, rfl⟩
  exact setRow_other W g k cells hk
theorem ev_store (hgd : o.guard = none) (T : TypeId) (x y : Operand) (ho : o.op = .store T x y) (g : Nat) (cells : Array Value) (hx : a.eval x = .pointer (some ⟨g, 0, none⟩)) (hy : a.eval y = .agg cells)
    {t : TypeId} {old : Array Value} (R : Row W g old t) (hi : (P.info? T).map (·.size) = some cells.size) (hold : old.size = cells.size) (h1 : cells.all (·.oneCell') = true) (hN : o.dst = none)
    (h : ∀ w1, Row w1 g cells t → Stored W g w1 → wpList P ops Q rest a w1) : wpList P ops Q (o :: rest) a W := by
  refine wpList_plain hgd fun K hK => wp_store_row T x y ho g cells hx hy t old R hi hold h1 ?_
  rw [hN]
  exact hK _ _ (h _ (setRow_heap W g old cells t _ R) (stored_setRow W g cells))
end
/-- what lies in a block -/
def rowOf (w : World) (g : Nat) : Array Value := match w.heap[g]? with | some (.cells c _ _) => c | _ => #[]
/-- the block is a row of n cells -/
def RowSz (w : World) (g n : Nat) : Prop := ∃ cs t, Row w g cs t ∧ cs.size = n
theorem Row.of {w : World} {g : Nat} {cs : Array Value} {t : TypeId} (h : Row w g cs t) : rowOf w g = cs := by unfold Row at h; unfold rowOf; rw [h]
theorem Row.sz {w : World} {g n : Nat} {cs : Array Value} {t : TypeId} (h : Row w g cs t) (hn : cs.size = n) : RowSz w g n := ⟨cs, t, h, hn⟩
def ptrBlock : Value → Nat
  | .pointer (some a) => a.block
  | _ => 0
theorem exec_load_row {P : Program} {T n : Nat} (d : TypeDesc) (hu : P.underlying T = some d) (hd : (match d with | .struct _ | .array _ _ => true | _ => false) = true) (hi : (P.info? T).map (·.size) = some n)
    (ρ : Operand → Value) (dst : Option Tmp) (x : Operand) (ty : TypeId) (pos : String) (after : Array Edge) (guard : Option (Nat × Bool)) (w : World)
    (hx : ρ x = .pointer (some ⟨ptrBlock (ρ x), 0, none⟩)) (h : RowSz w (ptrBlock (ρ x)) n) :
    (execOp ρ { dst := dst, op := .load T x, type := ty, pos := pos, after := after, guard := guard }).run P w = .ok (.value (.agg (rowOf w (ptrBlock (ρ x))))) w := by
  obtain ⟨cs, t, R, hs⟩ := h
  rw [R.of]
  generalize ptrBlock (ρ x) = g at *
  have hl := run_loadVar_row (P := P) w g t T cs (0, 0) d R hu hd (by rw [hs]; exact hi)
  have hr : (Instr.loadAt T (ρ x)).run P w = .ok (.agg cs) w := by
    rw [hx]
    simp only [Instr.loadAt, Instr.sureAddr, Sem.run_bind, Sem.run_pure, Result.andThen_ok, hl]
  show (do pure (Next.value (← Instr.loadAt T (ρ x)))).run P w = _
  simp only [Sem.run_bind, Sem.run_pure, Result.andThen_ok, hr]
end Go.Proofs.YtahagfdjpldblaaGreatDoor
